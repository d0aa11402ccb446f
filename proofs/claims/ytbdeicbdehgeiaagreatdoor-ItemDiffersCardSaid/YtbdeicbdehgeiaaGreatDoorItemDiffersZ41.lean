/- Texts of the proof of ItemDiffers, put together: RngI, ClnI, KsC, SrtA, DifA, DifB, LawItemDiffers. -/
import Derived.Test.YtbdeicbdehgeiaaGreatDoorItemDiffersZ10
import Derived.Test.YtbdeicbdehgeiaaGreatDoorItemDiffersZ13
import Derived.Test.YtbdeicbdehgeiaaGreatDoorItemDiffersZ14
import Derived.Test.YtbdeicbdehgeiaaGreatDoorItemDiffersZ15
import Derived.Test.YtbdeicbdehgeiaaGreatDoorItemDiffersZ17
import Derived.Test.YtbdeicbdehgeiaaGreatDoorItemDiffersZ18
import Derived.Test.YtbdeicbdehgeiaaGreatDoorItemDiffersZ19
import Derived.Test.YtbdeicbdehgeiaaGreatDoorItemDiffersZ25
import Derived.Test.YtbdeicbdehgeiaaGreatDoorItemDiffersZ28
import Derived.Test.YtbdeicbdehgeiaaGreatDoorItemDiffersZ29
import Derived.Test.YtbdeicbdehgeiaaGreatDoorItemDiffersZ33
import Derived.Test.YtbdeicbdehgeiaaGreatDoorItemDiffersZ36
import Derived.Test.YtbdeicbdehgeiaaGreatDoorItemDiffersZ38
import Derived.Test.YtbdeicbdehgeiaaGreatDoorItemDiffersZ39
import Derived.Shelf.SlicesE.Clone
import Derived.Sort.OwnSorted
import Derived.Shelf.Sort.Plain
import Derived.Shelf.Slices.In.SortNone
import Derived.Shelf.Slices.CompactS
import Derived.Lib.SlicesCompact
import Derived.Shelf.SlIter.Nil
import Derived.Shelf.SortM.Plain
import Derived.Shelf.SortM.SortNone
/- Range of the stream, from 0. -/
namespace Go.Proofs.YtbdeicbdehgeiaaGreatDoor
set_option linter.unusedVariables false
set_option linter.unusedSimpArgs false
open Go.RowKit

theorem pure_strmI {w w' : World} {o : Obj} (h : Mod (· = w.heap.size) (w.alloc o) w') : Pure w w' := ((Mod.refl (fun _ => False) w).alloc o).trans' h (fun i hi hlt => by omega)
theorem rangeI_calls (w : World) (b N : Nat) (hi : Int) (hS : Strm w b N) (hN : N ≤ 1000000000) (h1 : 0 ≤ hi) (h2 : hi ≤ 1000) : Calls Tryz.prog 9 #[.pointer (some ⟨b, 0, none⟩), .int .i64 0, .int .i64 hi] w (fun e w' => ∃ (m : Nat) (mI : Int), mI = (m : Int) ∧ mI ≤ hi ∧ e = .returned (.int .i64 mI) ∧ Strm w' b (N + 1) ∧ Mod (· = b) w w') := by
  refine (range_calls w b N 0 hi hS hN h1 (by omega) (by omega)).mono ?_
  rintro e w' ⟨k, h0, h1, rfl, h3, h4⟩
  exact ⟨k.toNat, k, by omega, h1, rfl, h3, h4⟩

end Go.Proofs.YtbdeicbdehgeiaaGreatDoor

/- slices.Clone of items of one's own; a store into a row of items. -/
namespace Go.Proofs.YtbdeicbdehgeiaaGreatDoor
set_option linter.unusedVariables false
set_option linter.unusedSimpArgs false
open Go.RowKit Go.Sort Go.Shelf

def ClnQ (w : World) (l : List Itm) (e : Ending) (w' : World) : Prop := ∃ v, e = .returned v ∧ w'.ownsRow w.heap.size 59 7 v l.length (itV l) ∧ Pure w w'
theorem itV_oneQ (l : List Itm) : ∀ u ∈ itV l, u.oneCell' = true := by
  intro u hu
  obtain ⟨x, _, hx⟩ := List.mem_flatMap.1 hu
  simp only [itC, List.mem_cons, List.not_mem_nil, or_false] at hx
  rcases hx with rfl | rfl | rfl | rfl | rfl | rfl | rfl <;> rfl
theorem clnI_calls (w : World) (base : Nat) (v : Value) (l : List Itm) (hown : w.ownsRow base 59 7 v l.length (itV l)) (hl : l.length ≤ 100000) : Calls Tryz.prog 24 #[v] w (ClnQ w l) := by
  obtain ⟨i0, hi0, hz0, hz1, hz2⟩ := info_parts info_item7
  have hv : Its w v l := Sl.of_own hown
  have h0 : v = .slice none 0 0 ∨ ∃ g n c, v = .slice (some ⟨g, 0, none⟩) n c := by
    rcases hown.2 with ⟨h1, _⟩ | ⟨g, cap, _, h1, _⟩
    · exact .inl h1
    · exact .inr ⟨g, _, cap, h1⟩
  rcases h0 with rfl | ⟨g, n, c, rfl⟩
  · obtain ⟨_, _, _, hf, _, _, hl2, _⟩ := hv
    cases hf
    have e : l = [] := List.eq_nil_of_length_eq_zero (by rw [itV_len] at hl2; omega)
    subst e
    refine (AnyE.slices_Clone_nil Tryz.clnItm 0 0 w).mono ?_
    rintro e w' ⟨rfl, rfl⟩
    exact ⟨_, rfl, World.ownsRow_nil _ _ _ _, Mod.refl _ _⟩
  · obtain ⟨_, _, _, hf, hc1, hc2, hl2, hr⟩ := hv
    cases hf
    have hln : l.length = n := by rw [itV_len] at hl2; omega
    subst hln
    refine (AnyE.slices_Clone Tryz.clnItm i0 itZ 7 96 hi0 hz0 hz1 hz2 rfl (by omega) Tryz.sizeOf59 g 0 l.length c (itV l) w (itV_len l) (by unfold maxLen; omega) (by omega) (fun j u hj => ?_) (itV_oneQ l)).mono ?_
    · have : 0 < l.length := by
        rcases Nat.eq_zero_or_pos l.length with h | h
        · rw [List.eq_nil_of_length_eq_zero h] at hj; simp [itV] at hj
        · exact h
      obtain ⟨g2, o2, h2, hrow⟩ := hr this
      have h3 : g = g2 ∧ o2 = 0 := by
        have := Option.some.inj h2
        exact ⟨congrArg Addr.block this, (congrArg Addr.off this).symm⟩
      obtain ⟨rfl, rfl⟩ := h3
      exact hrow.cell hj
    · rintro e w' ⟨v', rfl, hown, _, hb⟩
      exact ⟨v', rfl, hown, Mod.of_below hb⟩

end Go.Proofs.YtbdeicbdehgeiaaGreatDoor

/- Rows of changes: ==, slices.Equal, slices.SortFunc. -/
namespace Go.Proofs.YtbdeicbdehgeiaaGreatDoor
set_option linter.unusedVariables false
set_option linter.unusedSimpArgs false
open Go.RowKit Go.Sort Go.Shelf
attribute [local go_sem ↓] Go.wp_at_zero Go.wp_at_succ

def chgC (x : Chg) : List Value := [.string ⟨x.id.toArray⟩, .int .i64 x.what]
def chgA (x : Chg) : Value := .agg #[.string ⟨x.id.toArray⟩, .int .i64 x.what]
def chgV (xs : List Chg) : List Value := xs.flatMap chgC
theorem chgV_len (xs : List Chg) : (chgV xs).length = xs.length * 2 := flatK_len (enc := chgC) (k := 2) (fun _ => rfl) xs
theorem chgV_snoc (xs : List Chg) (x : Chg) : chgV (xs ++ [x]) = chgV xs ++ chgC x := by simp [chgV]
instance : Inhabited Chg := ⟨⟨[], 0⟩⟩
def chgEq (x y : Chg) : Bool := decide (x.id = y.id) && decide (x.what = y.what)
theorem chgEq_refl (x : Chg) : chgEq x x = true := by simp [chgEq]
theorem info_chg : (Tryz.prog.info? 68).map (fun i => (i.zero, i.size, i.bytes)) = some (some (.agg #[.string ⟨#[]⟩, .int .i64 0]), 2, 24) := by kernel_rfl

theorem eqTypeChg : Tryz.prog.stoodInHeld 68 = false := by kernel_rfl
theorem eqGuardTChg : Tryz.prog.eqGuardType Tryz.prog.depth 68 = false := by kernel_rfl
theorem eqStructChg : Tryz.prog.underlying 68 = some (.struct (Tryz.prog.fieldsOf 68)) := by kernel_rfl
set_option maxRecDepth 100000 in
set_option maxHeartbeats 2000000 in
theorem eqInChg (x y : Chg) (w : World) : Sem.run Tryz.prog (Op.equalIn 10000 68 (chgA x) (chgA y)) w = .ok (chgEq x y) w := by
  have us := Tryz.underlying9
  have ag := Tryz.isAgg9
  have zs := Tryz.sizeOf9
  have ui := Tryz.underlying3
  have ai := Tryz.isAgg3
  have zi := Tryz.sizeOf3
  have hS := eqStructChg
  unfold chgA chgEq
  rw [show (10000 : Nat) = 9999 + 1 from rfl, run_equalIn_agg w 9999 68 _ _ hS eqTypeChg]
  simp only [Program.fieldsOf, Tryz.underlying68]
  clear hS
  go_simp
  (repeat' split) <;> simp_all
theorem eqlChg (x y : Chg) (w : World) : Sem.run Tryz.prog (binOp .eql 68 (chgA x) (chgA y)) w = .ok (.bool (chgEq x y)) w := by
  have h := eqInChg x y w
  unfold chgA at h ⊢
  rw [run_eql_struct, h]
  rfl
theorem neqChg (x y : Chg) (w : World) : Sem.run Tryz.prog (binOp .neq 68 (chgA x) (chgA y)) w = .ok (.bool (!chgEq x y)) w := by
  have h := eqInChg x y w
  unfold chgA at h ⊢
  rw [run_neq_struct, h]
  rfl
theorem guardChg (op : BinOp) (a b : Operand) (x y : Chg) (w : World) : Sem.run Tryz.prog (eqGuard op 68 a b (chgA x) (chgA y)) w = .ok () w :=
  run_eqGuard_agg w op 68 a b _ _ eqGuardTChg
theorem neqAtChg : NeqAt Tryz.prog 68 (fun x => .agg (chgC x).toArray) chgEq := ⟨neqChg, guardChg⟩


set_option maxRecDepth 100000 in
set_option maxHeartbeats 2000000 in
theorem equal0Chg_calls (w : World) (A1 A2 : Option Addr) (c1 c2 : Nat) : Calls Tryz.prog 29 #[.slice A1 0 c1, .slice A2 0 c2] w (BoolPost w true) := by
  go_enter Tryz.func29, Tryz.ntmps29
  go_wp2_with fail
  refine wp_loop_rounds 1 ?_
  rw [rounds_succ]
  go_wp2_with fail
  go_ret
  exact BoolPost.of rfl (Mod.refl _ _)
set_option maxHeartbeats 1000000 in
theorem equalChg_calls (w : World) (v1 v2 : Value) (xs : List Chg) (h1 : Sl w 68 2 v1 (chgV xs)) (h2 : Sl w 68 2 v2 (chgV xs)) : Calls Tryz.prog 29 #[v1, v2] w (BoolPost w true) := by
  obtain ⟨A1, n1, c1, rfl, a1, a2, a3, a4⟩ := h1
  obtain ⟨A2, n2, c2, rfl, b1, b2, b3, b4⟩ := h2
  rw [chgV_len] at a3 b3
  obtain rfl : n1 = xs.length := by omega
  obtain rfl : n2 = xs.length := by omega
  by_cases h0 : xs.length = 0
  · rw [h0]
    exact equal0Chg_calls w A1 A2 c1 c2
  obtain ⟨g1, o1, rfl, r1⟩ := a4 (by omega)
  obtain ⟨g2, o2, rfl, r2⟩ := b4 (by omega)
  have hk : ∀ x, (chgC x).length = 2 := fun _ => rfl
  have hr : ∀ {g o : Nat}, RowAt w 68 g o (chgV xs) → ∀ j, j < xs.length → ∀ i v, (chgC xs[j]!)[i]? = some v → w.cell? ⟨g, o + j * 2 + i, none⟩ = some v := fun {g o} r j hj i v hv => by
    have hi : i < 2 := by
      rw [← hk xs[j]!]
      exact (List.getElem?_eq_some_iff.1 hv).1
    have h := r.cell (i := j * 2 + i) (u := v) (by
      show (xs.flatMap chgC)[j * 2 + i]? = some v
      rw [flatK_at hk (by omega) xs (j * 2 + i) (by omega), show (j * 2 + i) / 2 = j by omega, show (j * 2 + i) % 2 = i by omega]
      obtain ⟨h3, h4⟩ := List.getElem?_eq_some_iff.1 hv
      rw [getElem!_pos _ i h3, h4])
    rw [Nat.add_assoc]
    exact h
  refine (AnyQ.slices_Equal Tryz.eqChg 2 Tryz.isAgg68 Tryz.sizeOf68 chgC hk chgEq neqAtChg g1 o1 xs.length c1 g2 o2 xs.length c2 xs xs w (Nat.le_refl _) (Nat.le_refl _) (by omega) (by omega) (hr r1) (hr r2)).mono ?_
  rintro e w' ⟨rfl, q, rfl⟩
  rw [Lib.allEq_all chgEq _ _ rfl (fun j _ => chgEq_refl _)]
  exact BoolPost.of rfl ((Mod.refl _ _).drewN q)


set_option maxRecDepth 100000 in
set_option maxHeartbeats 2000000 in
theorem insert0Chg_calls (w : World) (A : Option Addr) (cap : Nat) (fv : Value) : Calls Tryz.prog 184 #[.slice A 0 cap, .int .i64 0, .int .i64 0, fv] w (NonePost w) := by
  go_enter Tryz.func184, Tryz.ntmps184
  go_wp2_with fail
  refine wp_loop_rounds 1 ?_
  rw [rounds_succ]
  go_wp2_with fail
  go_end0
  exact ⟨rfl, Mod.refl _ _⟩
set_option maxRecDepth 100000 in
set_option maxHeartbeats 2000000 in
theorem pdq0Chg_calls (w : World) (A : Option Addr) (cap : Nat) (fv vl : Value) : Calls Tryz.prog 132 #[.slice A 0 cap, .int .i64 0, .int .i64 0, vl, fv] w (NonePost w) := by
  have H := Lib.hid (insert0Chg_calls w A cap fv)
  go_enter Tryz.func132, Tryz.ntmps132
  go_wp2_with fail
  refine wp_loop_rounds 1 ?_
  rw [rounds_succ]
  go_wp2_with fail
  refine H.out.mono ?_
  rintro e w1 ⟨rfl, hm⟩
  go_wp2_with fail
  go_end0
  exact ⟨rfl, hm⟩
set_option maxRecDepth 100000 in
set_option maxHeartbeats 2000000 in
theorem sort0Chg_calls (w : World) (A : Option Addr) (cap : Nat) (fv : Value) : Calls Tryz.prog 82 #[.slice A 0 cap, fv] w (NonePost w) := by
  have HL : Hid (Calls Tryz.prog 96 #[.int .u64 0] w fun e w' => (∃ x : Int, e = .returned (.int .i64 x)) ∧ w' = w) := Lib.hid ((Any.bits_Len Tryz.bitsLenK 0 w (by omega) (by omega)).mono fun _ _ ⟨h, k⟩ => ⟨⟨_, h⟩, k⟩)
  have H := Lib.hid (fun (vl : Value) (W : World) => pdq0Chg_calls W A cap fv vl)
  go_enter Tryz.func82, Tryz.ntmps82
  go_wp2_with fail
  refine HL.out.mono ?_
  rintro e w1 ⟨⟨v, rfl⟩, rfl⟩
  go_wp2_with fail
  refine (H.out _ _).mono ?_
  rintro e w2 ⟨rfl, hm2⟩
  go_wp2_with fail
  go_end0
  exact ⟨rfl, hm2⟩
def SrtChgPost (w : World) (base : Nat) (v : Value) (n : Nat) (xs : List Chg) (e : Ending) (w' : World) : Prop :=
  ∃ ys : List Chg, ys.Perm xs ∧ (ys.Pairwise fun a b => a.id < b.id) ∧ e = .returned (.tuple #[]) ∧ w'.ownsRow base 68 2 v n (chgV ys) ∧ Mod (fun k => v.ownBlock = some k) w w'
set_option maxHeartbeats 1000000 in
theorem sortChg_calls (w : World) (base n : Nat) (v : Value) (xs : List Chg) (F : Nat) (hown : w.ownsRow base 68 2 v n (chgV xs)) (hd : (xs.map fun z => z.id).Nodup) (h12 : xs.length ≤ 1000000)
    (eg : ∀ args w, Sem.run Tryz.prog (callFunc F args) w = .ok (.enter F args) w) (hF : ∀ (x y : Chg) (W : World), Calls Tryz.prog F #[.agg (chgC x).toArray, .agg (chgC y).toArray] W (GrowPost W (cfBy (fun z : Chg => z.id) x y))) :
    Calls Tryz.prog 82 #[v, .func (.func F) #[] #[]] w (SrtChgPost w base v n xs) := by
  have hk : ∀ x, (chgC x).length = 2 := fun _ => rfl
  have hnx : n = xs.length := own_lenK (enc := chgC) (k := 2) (g := 0) (cap := 0) hk (by omega) hown
  rcases hown.2 with ⟨rfl, h0⟩ | ⟨g, cap, cur, rfl, hbase, hb, h1, h2, h3, h4⟩
  · have e : xs = [] := List.eq_nil_of_length_eq_zero (by omega)
    subst e
    refine (sort0Chg_calls w none 0 _).mono ?_
    rintro e w' ⟨rfl, hm⟩
    exact ⟨[], List.Perm.refl _, List.Pairwise.nil, rfl, own_pure hown hm, Mod.of_pure hm⟩
  · subst hnx
    have hH := holdsK_own (enc := chgC) (k := 2) hk (by omega) hown
    have hs := AnyQ.slices_SortFunc Tryz.srtChg 2 Tryz.isAgg68 Tryz.sizeOf68 chgC hk (fun x v hv => by
      simp only [chgC, List.mem_cons, List.not_mem_nil, or_false] at hv
      rcases hv with rfl | rfl <;> rfl) (cfBy fun z : Chg => z.id) (swoBy fun z : Chg => z.id) F #[] g 0 cap xs.toArray w eg (fun m os dk hz x y => hF x y _) hH (lt_of_heap hb) (by simp; omega)
    refine (show Calls Tryz.prog 82 #[.slice (some ⟨g, 0, none⟩) xs.length cap, .func (.func F) #[] #[]] w _ from hs).mono ?_
    rintro e w' ⟨rfl, d, m, os, hp, hq, rfl⟩
    obtain ⟨p1, p2⟩ := sortedIn_lt (fun z : Chg => z.id) hp hq hd
    obtain ⟨o1, o2⟩ := own_sortedK (enc := chgC) (k := 2) (ys := d.toList) (m := m) (os := os) hk (by omega) hown (by simpa using p1.length_eq)
    rw [Array.toArray_toList] at o1 o2
    exact ⟨d.toList, p1, p2, rfl, o1, o2.mono fun i hi => by subst hi; rfl⟩


end Go.Proofs.YtbdeicbdehgeiaaGreatDoor

/- Sorting, Compact, Join, the sorted keys of a map (the shelf's contracts in my words). -/
namespace Go.Proofs.YtbdeicbdehgeiaaGreatDoor
set_option linter.unusedVariables false
set_option linter.unusedSimpArgs false
open Go.RowKit Go.Sort

def SameRow2 (w : World) (base : Nat) (v : Value) (ss : List Str) (e : Ending) (w' : World) : Prop :=
  e = .returned (.tuple #[]) ∧ w'.ownsRow base 9 1 v ss.length (strsV ss) ∧ Mod (fun k => v.ownBlock = some k) w w'
theorem grown_mod2 {w w' : World} {row : Option Nat} (h : w.grownBy w' row) : Mod (fun k => row = some k) w w' :=
  ⟨h.os, h.tape, h.output, h.size, fun k hk hs => h.block k hk (fun x => hs x.symm)⟩
theorem own_nil2 {w : World} {base n : Nat} {e : TypeId} {v : Value} (h : w.ownsRow base e 1 v n []) : n = 0 := by have := h.1; simp at this; omega

theorem sortS_calls2 (w : World) (v : Value) (n base : Nat) (ss : List Str) (hown : w.ownsRow base 9 1 v n (strsV ss)) (hl : ss.length ≤ 1000000) :
    Calls Tryz.prog 45 #[v] w (SameRow2 w base v (ss.mergeSort fun x y => decide (x ≤ y))) := by
  have hn : n = ss.length := by have := hown.1; simp [strsV] at this; omega
  subst hn
  rcases hown.2 with ⟨rfl, h0⟩ | ⟨g, cap, cur, rfl, hbase, hb, h1, h2, h3, h4⟩
  · have e : ss = [] := List.eq_nil_of_length_eq_zero h0
    subst e
    refine (Any.slices_Sort_string_none Tryz.lays190 none 0 w).mono ?_
    rintro e w' ⟨rfl, rfl⟩
    exact ⟨rfl, by simpa using hown, Mod.refl _ _⟩
  · refine (Any.slices_Sort_string Tryz.lays190 g 0 cap ss w (holds_of_block hb (by simpa [strsV] using h4)) (lt_of_heap hb) (by omega)).mono ?_
    rintro e w' ⟨rfl, nn, os, rfl⟩
    refine ⟨rfl, ?_, grown_mod2 (grownBy_sorted _)⟩
    have := ownsRow_sorted (n := nn) (os := os) (ts := ss.mergeSort fun x y => decide (x ≤ y)) (ss := ss) (by simp) hbase hb h1 h2 h3
    simpa [strsV] using this


/-- What Compact hands back. -/
def CompactPost2 (w : World) (base g cap : Nat) (ss : List Str) (e : Ending) (w' : World) : Prop :=
  e = .returned (.slice (some ⟨g, 0, none⟩) (Lib.compact ss).length cap) ∧ w'.ownsRow base 9 1 (.slice (some ⟨g, 0, none⟩) (Lib.compact ss).length cap) (Lib.compact ss).length (strsV (Lib.compact ss)) ∧ Mod (fun k => k = g) w w'
theorem own_shrink2 {w : World} {base g cap n m : Nat} {e : TypeId} {xs : List Value} (h : w.ownsRow base e 1 (.slice (some ⟨g, 0, none⟩) n cap) n xs) (hm : m ≤ n) : w.ownsRow base e 1 (.slice (some ⟨g, 0, none⟩) m cap) m (xs.take m) := by
  rcases h.2 with ⟨h0, _⟩ | ⟨g', cap', cur, hv, hbase, hb, h1, h2, h3, h4⟩
  · cases h0
  · cases hv
    have := h.1
    refine ⟨by simp; omega, .inr ⟨g, cap, cur, rfl, hbase, hb, by omega, h2, h3, ?_⟩⟩
    rw [← h4, List.take_take]
    congr 1
    omega
theorem compact_le2 (ss : List Str) : (Lib.compact ss).length ≤ ss.length := by
  unfold Lib.compact Lib.compactUpTo
  rw [List.length_map]
  have := List.length_filter_le (Lib.keeps ss.toArray) (List.range ss.length)
  simpa using this
theorem compact_mem2 (ss : List Str) : ∀ x ∈ Lib.compact ss, x ∈ ss := by
  intro x hx
  unfold Lib.compact Lib.compactUpTo at hx
  simp only [List.mem_map, List.mem_filter, List.mem_range] at hx
  obtain ⟨i, ⟨hi, _⟩, rfl⟩ := hx
  rw [getElem!_pos ss.toArray i (by simpa using hi)]
  simp
theorem compactS_calls2 (w : World) (g cap n base : Nat) (ss : List Str) (hown : w.ownsRow base 9 1 (.slice (some ⟨g, 0, none⟩) n cap) n (strsV ss)) (hl : ss.length ≤ 1000000) :
    Calls Tryz.prog 46 #[.slice (some ⟨g, 0, none⟩) n cap] w (CompactPost2 w base g cap ss) := by
  have hn : n = ss.length := by have := hown.1; simp [strsV] at this; omega
  subst hn
  rcases hown.2 with ⟨h0, _⟩ | ⟨g', cap', cur, hv, hbase, hb, h1, h2, h3, h4⟩
  · cases h0
  · cases hv
    refine (Any.slices_Compact_string Tryz.lays194 g 0 cap ss w (holds_of_block hb (by simpa [strsV] using h4)) (by omega) h1).mono ?_
    rintro e w' ⟨rfl, nn, rfl⟩
    have e0 : ∀ W : World, W = grow W #[] := fun W => by simp [grow]
    rw [e0 (putRow _ _ _ _ _)]
    have hcl := compact_le2 ss
    refine ⟨rfl, ?_, (grown_mod2 (grownBy_sorted _)).mono (fun k hk => by injection hk with hk; exact hk.symm)⟩
    have h := ownsRow_sorted (n := nn) (os := #[]) (ts := Lib.compact ss ++ List.replicate (ss.length - (Lib.compact ss).length) []) (ss := ss) (by simp; omega) hbase hb h1 h2 h3
    have h2 := own_shrink2 h hcl
    rw [List.map_append, List.take_left' (by simp)] at h2
    exact h2

end Go.Proofs.YtbdeicbdehgeiaaGreatDoor

namespace Go.Proofs.YtbdeicbdehgeiaaGreatDoor
open Go.RowKit

end Go.Proofs.YtbdeicbdehgeiaaGreatDoor

namespace Go.Proofs.YtbdeicbdehgeiaaGreatDoor
open Go.RowKit

end Go.Proofs.YtbdeicbdehgeiaaGreatDoor

namespace Go.Proofs.YtbdeicbdehgeiaaGreatDoor
open Go.RowKit Go.Maps Go.Sort Go.Shelf

theorem sortsK (m : Nat) : AnyZ.SortsIn Tryz.prog Tryz.sortedK_ren Fence.wide m :=
  ⟨fun blk off cap ss W hH hblk hsz => callsIn_wide.2 (AnyM.slices_Sort_string Tryz.sortK blk off cap ss W hH hblk hsz),
   fun p cap W => callsIn_wide.2 (AnyM.slices_Sort_string_none Tryz.sortK p cap W)⟩
/-- The keys of a map, as they stand in the datum. -/
theorem perm_keys {w : World} {b n : Nat} {R : Value → Option (DataW Value × List MemPlace)} {D : DataW Value} (hown : w.ownsMap Tryz.prog 9 R b n D) {K : List Str} (hn : K.Nodup) (hK : ∀ x, x ∈ K ↔ Maps.has D (.string x) = true) : K.Perm (strKeys D) := by
  obtain ⟨es, hD, hpw, _⟩ := hown.entries strKey
  obtain ⟨es', hD', hko⟩ := hown.keysOf
  obtain rfl : es = es' := by rw [hD] at hD'; simpa using hD'
  subst hD
  exact perm_strKeys hpw (fun p hp => by obtain ⟨v, hv⟩ := hko p hp; obtain ⟨x, _, hx, _⟩ := Maps.keyOf_str Tryz.underlying9 hv; exact ⟨x, hx⟩) hn hK
theorem size_keys {w : World} {b n : Nat} {R : Value → Option (DataW Value × List MemPlace)} {D : DataW Value} (hown : w.ownsMap Tryz.prog 9 R b n D) : Maps.size D ≤ n := hown.size_le

def SortedPost (w : World) (ys : List Str) (e : Ending) (w' : World) : Prop := ∃ v, e = .returned v ∧ w'.ownsRow w.heap.size 9 1 v ys.length (strsV ys) ∧ Pure w w'
theorem mapsKeysSB_calls (mb : Option Nat) (W : World) : Calls Tryz.prog 81 #[.map mb] W fun e w' => e = .returned (.func (.func 131) #[] #[.pointer (some ⟨W.heap.size, 0, none⟩)]) ∧ w' = W.alloc (.cells #[.map mb] 97) :=
  callsIn_wide.1 (AnyZ.keys_in Tryz.keysSB Fence.wide 5 trivial rfl mb W)

set_option maxHeartbeats 1000000 in
theorem sortedSB_calls (b n : Nat) (f : Str → Option Value) (w : World) (hM : MapS w b n f) (hn : n ≤ 1000000) (K : List Str) (hKn : K.Nodup) (hK : ∀ x, x ∈ K ↔ (f x).isSome = true) :
    Calls Tryz.prog 74 #[.func (.func 131) #[] #[.pointer (some ⟨w.heap.size, 0, none⟩)]] (w.alloc (.cells #[.map (some b)] 97)) (SortedPost (w.alloc (.cells #[.map (some b)] 97)) (K.mergeSort fun x y => decide (x ≤ y))) := by
  obtain ⟨D0, hown, _, hhas⟩ := hM
  have hsz := size_keys hown
  have hperm : K.Perm (strKeys D0) := perm_keys hown hKn (fun x => by rw [hK x, hhas x])
  have hbl := hown.lt
  have hseq : SeqGives Fence.wide 2 Tryz.prog 131 #[.pointer (some ⟨w.heap.size, 0, none⟩)] encStr (fun ss => ss.Perm (strKeys D0)) (Maps.size D0) (w.alloc (.cells #[.map (some b)] 97)) :=
    AnyZ.keys_gives (ρ := Tryz.keysSB_ren) { Tryz.keysSB with } Fence.wide _ trivial rfl (by omega) w.heap.size b n D0 _ (by simp) (by simp) (by
      obtain ⟨es, clock, hb, Ft, hs, hD⟩ := hown
      exact ⟨es, clock, (Below.heap_alloc _ _ b hbl).trans hb, Ft, hs, hD⟩)
  have hmain := callsIn_wide.1 (AnyZ.sorted_in Tryz.sortedK Fence.wide 5 trivial trivial trivial trivial rfl (by omega) (sortsK _) (enters_of Tryz.func45 (by kernel_rfl) rfl) 131 #[.pointer (some ⟨w.heap.size, 0, none⟩)] trivial (enters_of Tryz.func131 (by kernel_rfl) rfl) _ (Maps.size D0) (by unfold maxLen; omega) (by omega) _ hseq)
  refine hmain.mono ?_
  rintro e w' ⟨v, ss, rfl, hS, hrow, hnil, hb⟩
  have he : ss.mergeSort (fun x y => decide (x ≤ y)) = K.mergeSort fun x y => decide (x ≤ y) := mergeSort_of_perm (hS.trans hperm.symm)
  rw [he] at hrow
  have hl : ss.length = (K.mergeSort fun x y => decide (x ≤ y)).length := by rw [← he]; simp
  rw [hl] at hrow
  exact ⟨v, rfl, hrow, Mod.of_below hb⟩

end Go.Proofs.YtbdeicbdehgeiaaGreatDoor

/- Differ of package intake. -/
namespace Go.Proofs.YtbdeicbdehgeiaaGreatDoor
set_option linter.unusedVariables false
set_option linter.unusedSimpArgs false
open Go.RowKit Go.Sort

/-- The keys of one map that a range has met, and other keys. -/
def KySet (f : Str → Option Value) (left : Str → Bool) (T S : List Str) : Prop := ∀ s, s ∈ S ↔ s ∈ T ∨ ((f s).isSome = true ∧ left s = false)
theorem KySet.start (f : Str → Option Value) (T : List Str) : KySet f (fun s => (f s).isSome) T T := fun s => by
  constructor
  · exact .inl
  · rintro (h | ⟨h1, h2⟩)
    · exact h
    · have h3 : (f s).isSome = false := h2
      rw [h1] at h3
      cases h3
theorem KySet.step {f : Str → Option Value} {left : Str → Bool} {T S : List Str} (h : KySet f left T S) {s : Str} {v : Value} (hv : f s = some v) : KySet f (fun x => left x && !decide (x = s)) T (S ++ [s]) := fun x => by
  rw [List.mem_append, List.mem_singleton, h]
  by_cases hx : x = s
  · subst hx
    simp [hv]
  · simp [hx]
theorem KySet.all {f : Str → Option Value} {left : Str → Bool} {T S : List Str} (h : KySet f left T S) (ha : ∀ s, left s = false) : ∀ s, s ∈ S ↔ s ∈ T ∨ (f s).isSome = true := fun s => by rw [h]; simp [ha s]
def DrRel (w : World) (bm br r n0 : Nat) (f : Str → Option Value) (T : List Str) (gk : Nat) (wr : World) : Prop :=
  ∃ (left : Str → Bool) (S : List Str) (n : Nat), MapRg wr br r f left gk ∧ SetS wr bm n S ∧ n + gk ≤ n0 ∧ KySet f left T S ∧ Pure w wr
def difE (a b : List Itm) : Int := if itsE itemE a ≠ 0 then itsE itemE a else itsE itemE b
def DfPost (w : World) (a b : List Itm) (e : Ending) (w' : World) : Prop :=
  ∃ (A : Option Addr) (n c : Nat), e = .returned (.tuple #[.slice A n c, .int .i64 (difE a b)]) ∧ (difE a b ≠ 0 → A = none ∧ n = 0 ∧ c = 0) ∧ (difE a b = 0 → Sl w' 68 2 (.slice A n c) (chgV (difL a b))) ∧ Pure w w'
def DfRel (W1 : World) (base : Nat) (a b : List Itm) (gk : Nat) (x i : Value) (wr : World) : Prop :=
  ∃ (k : Nat) (out : List Chg) (A : Option Addr) (cap : Nat), (allS a b).length - k = gk ∧ k ≤ (allS a b).length ∧ x = .slice A out.length cap ∧ i = .int .i64 (k : Int) ∧ out = ((allS a b).take k).filterMap (difG a b) ∧ out.length ≤ k ∧
    wr.ownsRow base 68 2 (.slice A out.length cap) out.length (chgV out) ∧ Pure W1 wr ∧ base ≤ wr.heap.size
theorem dif_take {a b : List Itm} {k : Nat} (h : k < (allS a b).length) : ((allS a b).take (k + 1)).filterMap (difG a b) = match difF a b (allS a b)[k] with
    | none => ((allS a b).take k).filterMap (difG a b)
    | some z => ((allS a b).take k).filterMap (difG a b) ++ [⟨(allS a b)[k], z⟩] := by
  rw [List.take_succ_eq_append_getElem h, List.filterMap_append, List.filterMap_cons, List.filterMap_nil]
  unfold difG
  cases difF a b (allS a b)[k] <;> simp
theorem allS_len (a b : List Itm) : (allS a b).length ≤ a.length + b.length := by
  unfold allS
  rw [List.length_mergeSort]
  have : ∀ xs : List Str, (uniq xs).length ≤ xs.length := fun xs => by
    induction xs with
    | nil => simp [uniq]
    | cons x xs ih =>
      unfold uniq
      split
      · exact Nat.le_trans ih (by simp)
      · simpa using ih
  have h := this ((a ++ b).map (·.id))
  simpa using h
/-- What the map of items gives at a key. -/
theorem look_at {w : World} {b n : Nat} {l : List Itm} (h : MapX w b n (byF l)) (s : Str) (hs : s.length ≤ 1000000) : ∃ (p : Itm) (bd : Bool), ((atS l s = none ∧ bd = false) ∨ (atS l s = some p ∧ bd = true)) ∧ ∀ W, Pure w W → (Instr.lookup 92 (.map (some b)) (.string ⟨s.toArray⟩) true).run Tryz.prog W = .ok (.tuple #[itA p, .bool bd]) W := by
  have hl : ∀ W, Pure w W → _ := fun W hW => (h.pure hW).look_ok Tryz.underlying92 zero_item s hs
  cases hf : fnd l s with
  | none =>
    refine ⟨⟨[], [], 0, [], 0, [], []⟩, false, .inl ⟨hf, rfl⟩, fun W hW => ?_⟩
    rw [hl W hW]
    unfold byF
    rw [hf]
    rfl
  | some p =>
    refine ⟨p, true, .inr ⟨hf, rfl⟩, fun W hW => ?_⟩
    rw [hl W hW]
    unfold byF
    rw [hf]
    rfl
theorem setF_some (S : List Str) (x : Str) : (setF S x).isSome = true ↔ x ∈ S := by
  unfold setF
  split <;> simp [*]

theorem byF_there (l : List Itm) (s : Str) : (byF l s).isSome = true ↔ ∃ x ∈ l, x.id = s := by
  unfold byF
  rw [Option.isSome_map, fnd_atS]
  cases h : atS l s with
  | none =>
    constructor
    · intro h2; cases h2
    · rintro ⟨x, hx, he⟩
      exact absurd he (atS_none.1 h x hx)
  | some p => exact ⟨fun _ => ⟨p, atS_mem h⟩, fun _ => rfl⟩
theorem difF_nn {a b : List Itm} {s : Str} (h : s ∈ allS a b) (ha : atS a s = none) (hb : atS b s = none) : False := by
  obtain ⟨x, hx, he⟩ := mem_allS.1 h
  rcases List.mem_append.1 hx with h1 | h1
  · exact atS_none.1 ha x h1 he
  · exact atS_none.1 hb x h1 he
theorem difF_ns {a b : List Itm} {s : Str} {q : Itm} (ha : atS a s = none) (hb : atS b s = some q) : difF a b s = some 1 := by unfold difF; rw [ha, hb]
theorem difF_sn {a b : List Itm} {s : Str} {p : Itm} (ha : atS a s = some p) (hb : atS b s = none) : difF a b s = some 2 := by unfold difF; rw [ha, hb]
theorem difF_ss {a b : List Itm} {s : Str} {p q : Itm} (ha : atS a s = some p) (hb : atS b s = some q) : difF a b s = if p.text ≠ q.text then some 3 else if itEq p q = false then some 4 else none := by unfold difF; rw [ha, hb]
theorem chg_snoc (xs : List Chg) (s : Str) (z : Int) : chgV (xs ++ [⟨s, z⟩]) = chgV xs ++ [.string ⟨s.toArray⟩, .int .i64 z] := by rw [chgV_snoc]; rfl
theorem itemE_ne' {x : Itm} (h : itemE x = 0) : x.id ≠ [] := fun e => by have := itemE_id h; rw [e] at this; cases this
theorem firstErrP (a b : Int) : firstErr [a, b] = if a ≠ 0 then a else b := by
  unfold firstErr firstErr firstErr
  by_cases ha : a = 0
  · by_cases hb : b = 0 <;> simp [ha, hb]
  · simp [ha]

set_option maxRecDepth 100000 in
set_option maxHeartbeats 16000000 in
theorem idiffer_calls (w : World) (va vb : Value) (a b : List Itm) (hva : Its w va a) (hvb : Its w vb b) (hza : ∀ x ∈ a, ItB x) (hzb : ∀ x ∈ b, ItB x) (hla : a.length ≤ 1000) (hlb : b.length ≤ 1000) (hE : Env w) : Calls Tryz.prog 28 #[va, vb] w (DfPost w a b) := by
  have hmm := @run_makeMap Tryz.prog
  obtain ⟨i0, hi0, hz0, hz1, hz2⟩ := info_parts info_chg
  have HCA := Lib.hid (check_calls w va a hva hza (by omega) hE)
  have HCB : Hid (∀ W, Pure w W → Calls Tryz.prog 52 #[vb] W (IntPost W (itsE itemE b))) := Lib.hid (fun W h => check_calls W vb b (hvb.pure h) hzb (by omega) (hE.pure h))
  have HBA : Hid (itsE itemE a = 0 → ∀ W, Pure w W → Calls Tryz.prog 80 #[va] W (ByPost W a)) := Lib.hid (fun h0 W h => byId_calls W va a (hva.pure h) hza (right_of (E := itemE) (fun x hx => itemE_ne' hx) h0).distinct (by omega))
  have HBB : Hid (itsE itemE b = 0 → ∀ W, Pure w W → Calls Tryz.prog 80 #[vb] W (ByPost W b)) := Lib.hid (fun h0 W h => byId_calls W vb b (hvb.pure h) hzb (right_of (E := itemE) (fun x hx => itemE_ne' hx) h0).distinct (by omega))
  have HZA := Lib.hid hza
  have HZB := Lib.hid hzb
  have HDE : Hid (difE a b = if itsE itemE a ≠ 0 then itsE itemE a else itsE itemE b) := Lib.hid rfl
  obtain ⟨A1, n1, c1, rfl⟩ := hva.form
  obtain ⟨A2, n2, c2, rfl⟩ := hvb.form
  unfold DfPost
  generalize difE a b = de at *
  obtain ⟨fa, hfa⟩ : ∃ fa, itsE itemE a = fa := ⟨_, rfl⟩
  obtain ⟨fb, hfb⟩ : ∃ fb, itsE itemE b = fb := ⟨_, rfl⟩
  rw [hfa] at HCA HBA HDE
  rw [hfb] at HCB HBB HDE
  clear hva hvb hza hzb hE hfa hfb
  go_enter Tryz.func28, Tryz.ntmps28
  go_wp2_with fail
  refine HCA.out.mono ?_
  rintro e w1 ⟨rfl, m1⟩
  have HC2 := Lib.hid (HCB.out w1 m1)
  clear HCA HCB
  go_wp2_with fail
  refine HC2.out.mono ?_
  rintro e w2 ⟨rfl, m2⟩
  have HM2 := Lib.hid (m1.trans m2)
  clear HC2 m1 m2
  go_wp2_with fail
  refine (firstE_calls _ _ _ [fa, fb] (Blk.new _ _ _).row0 (by simp)).mono ?_
  rintro e w3 ⟨rfl, m3⟩
  rw [firstErrP, ← HDE.out]
  have HM3 := Lib.hid ((HM2.out.trans (pure_alloc _ _)).trans m3)
  clear HM2 m3
  by_cases h0 : de = 0
  · subst h0
    have h0a : fa = 0 := Classical.byContradiction fun h => by have := HDE.out; rw [if_pos h] at this; exact h this.symm
    have h0b : fb = 0 := by have := HDE.out; rw [if_neg (by rw [h0a]; simp)] at this; exact this.symm
    have HC3 := Lib.hid (HBA.out h0a _ HM3.out)
    have HBB2 := Lib.hid (HBB.out h0b)
    clear HBA HBB HDE h0a h0b
    go_wp2_with fail
    refine HC3.out.mono ?_
    rintro e w4 ⟨ba, rfl, hba, hxa, m4⟩
    have HM4 := Lib.hid (HM3.out.trans m4)
    have HC4 := Lib.hid (HBB2.out _ HM4.out)
    have hww := HM3.out.size
    clear HC3 HBB2
    go_wp2_with fail
    refine HC4.out.mono ?_
    rintro e w5 ⟨bb, rfl, hbb, hxb, m5⟩
    have HM5 := Lib.hid (HM4.out.trans m5)
    have hxa5 := hxa.pure m5
    have HXA : Hid (∀ W, Pure w5 W → MapX W ba a.length (byF a)) := Lib.hid (fun W h => hxa5.pure h)
    have HXB : Hid (∀ W, Pure w5 W → MapX W bb b.length (byF b)) := Lib.hid (fun W h => hxb.pure h)
    have hal := hxa5.lt
    have hbl := hxb.lt
    have hw5 := HM5.out.size
    have HM0 := Lib.hid (SetS.made w5)
    have HP0 := Lib.hid (pure_alloc w5 (.map #[] 0))
    obtain ⟨w7, na, hrun, hrg, hmn, hp1, hs1⟩ := (HXA.out _ HP0.out).s.range (t := 92) (e := 59) Tryz.underlying92
    obtain ⟨r, hr⟩ : ∃ r, r = (w5.alloc (.map #[] 0)).heap.size := ⟨_, rfl⟩
    rw [← hr] at hrun hrg hs1
    have HRG := Lib.hid hrg
    have HST := Lib.hid (HM0.out.pure hp1)
    have HP7 := Lib.hid (HP0.out.trans hp1)
    have hrv : r = w5.heap.size + 1 := by rw [hr, World.size_alloc]
    have hw7 : r < w7.heap.size := by omega
    clear HC4 hxa hxb hxa5 m4 m5 HM4 HM3 hba hbb HM0 HP0 hrg hp1 hs1 hr
    go_wp2_with fail
    clear hmm hrun
    rw [← hrv]
    obtain ⟨bm, hbm⟩ : ∃ bm, bm = w5.heap.size := ⟨_, rfl⟩
    have hb1 := Nat.le_of_eq hbm
    have hb2 := Nat.le_of_eq hbm.symm
    rw [← hbm] at HST ⊢
    clear hbm
    go_loopg [] na (fun gk wx => DrRel w5 bm ba r na (byF a) [] gk wx)
    case atStart => exact ⟨_, [], 0, HRG.out, HST.out, by omega, KySet.start _ _, HP7.out⟩
    case round =>
      have hrw : bm < r := by omega
      have hnr : na ≤ 1000 := by omega
      clear HRG HST HP7 hw7 w7 hrv
      obtain ⟨left, S, n, hrg, hset, hle, hky, hm⟩ := hrel
      have hrl := hrg.lt
      rcases hrg.next with ⟨hc0, hall, hnx⟩ | ⟨s, v, w8, cnt2, hls, hfs, hnx, hrg2, hlt2, hm2, hsz2, hen⟩
      · have hk1 := hky.all hall
        have HKA : Hid (∀ s, s ∈ S ↔ (byF a s).isSome = true) := Lib.hid (fun s => by rw [hk1 s]; simp)
        have HMA := Lib.hid hm
        have HSA := Lib.hid hset
        have hwl := hm.size
        obtain ⟨w7, nb, hrun, hrg7, hmn7, hp1, hs1⟩ := (HXB.out _ hm).s.range (t := 92) (e := 59) Tryz.underlying92
        have hnr2 : n + nb ≤ 2000 := by omega
        have HKT : Hid (∀ z, z ∈ S ↔ (byF a z).isSome = true) := HKA
        obtain ⟨r2, hr⟩ : ∃ r2, r2 = wr.heap.size := ⟨_, rfl⟩
        rw [← hr] at hrun hrg7 hs1
        have HRG := Lib.hid hrg7
        have HST := Lib.hid (hset.pure hp1)
        have HP7 := Lib.hid (hm.trans hp1)
        have hrw2 : bm < r2 := by have := hset.lt; omega
        have hw7 : r2 < w7.heap.size := by omega
        clear hrg hset hky hm hk1 hall hc0 hp1 HMA HSA hrg7 hs1 hr hwl
        go_wp2_with fail
        clear hrun hnx
        go_loopg [] nb (fun gk wx => DrRel w5 bm bb r2 (n + nb) (byF b) S gk wx)
        case atStart => exact ⟨_, S, n, HRG.out, HST.out, by omega, KySet.start _ _, HP7.out⟩
        case round =>
          clear HRG HST HP7 hw7 w7
          obtain ⟨left, S2, n2, hrg, hset, hle2, hky, hm⟩ := hrel
          have hrl := hrg.lt
          rcases hrg.next with ⟨hc0, hall, hnx⟩ | ⟨s, v, w8, cnt2, hls, hfs, hnx, hrg2, hlt2, hm2, hsz2, hen⟩
          · have hk2 := hky.all hall
            have HKS := Lib.hid (mapsKeysSB_calls (some bm) wr)
            have HSO := Lib.hid (sortedSB_calls bm n2 (setF S2) wr hset (by omega) (uniq ((a ++ b).map (·.id))) (nodup_uniq _) (fun x => by
              rw [setF_some, hk2 x, HKT.out x, byF_there, byF_there, mem_uniq, List.mem_map]
              simp [List.mem_append, or_and_right, exists_or]))
            have HMW := Lib.hid hm
            clear hrg hset hky hm hk2 hall HKT
            go_wp2_with fail
            refine HKS.out.mono ?_
            rintro e w9 ⟨rfl, rfl⟩
            clear HKS
            go_wp2_with fail
            refine HSO.out.mono ?_
            rintro e w10 ⟨v4, rfl, own4, m4⟩
            have HK4 : Hid (∀ W, Pure w10 W → Sl W 9 1 v4 (strsV (allS a b))) := Lib.hid (fun W h => (Sl.of_own own4).pure h)
            have HP4 := Lib.hid (HMW.out.trans ((pure_alloc wr (.cells #[.map (some bm)] 97)).trans m4))
            have HXA4 : Hid (∀ W, Pure w10 W → MapX W ba a.length (byF a)) := Lib.hid (fun W h => HXA.out W (HP4.out.trans h))
            have HXB4 : Hid (∀ W, Pure w10 W → MapX W bb b.length (byF b)) := Lib.hid (fun W h => HXB.out W (HP4.out.trans h))
            have hfm := (Sl.of_own own4).form
            obtain ⟨A4, n4, c4, rfl⟩ := hfm
            have hn4 : (allS a b).length = n4 := (HK4.out w10 (Mod.refl _ _)).lenS
            subst hn4
            have HM4 := Lib.hid (HM5.out.trans HP4.out)
            have hal4 := allS_len a b
            clear HSO own4 m4 HXA HXB HMW HP4 HM5 hnx hle hle2
            go_wp2_with fail
            obtain ⟨base, hbase⟩ : ∃ base, base = w10.heap.size := ⟨_, rfl⟩
            have hs1 := Nat.le_of_eq hbase
            have hs2 := Nat.le_of_eq hbase.symm
            clear hbase
            go_loopg [12, 53] (allS a b).length (fun gk x i wr => DfRel w10 base a b gk x i wr)
            case atStart => exact ⟨0, [], none, 0, by omega, by omega, rfl, rfl, by simp, by simp, World.ownsRow_nil _ _ _ _, Mod.refl _ _, by omega⟩
            case round =>
              obtain ⟨k, out, Ao, cap, rfl, hk, rfl, rfl, hout, hol, hown, hm, hbs⟩ := hrel
              by_cases hlt : k < (allS a b).length
              · have S1 := HK4.out _ hm
                obtain ⟨gr, off, rfl, hrow⟩ := S1.rowS (by omega)
                have q1 := hrow.cell (strsV_get (allS a b) k hlt)
                have HMS : Hid ((allS a b)[k] ∈ allS a b) := Lib.hid (List.getElem_mem hlt)
                have hsl : (allS a b)[k].length ≤ 1000000 := by
                  obtain ⟨x, hx, he⟩ := mem_allS.1 HMS.out
                  rw [← he]
                  rcases List.mem_append.1 hx with h1 | h1
                  · have := (HZA.out x h1).1; omega
                  · have := (HZB.out x h1).1; omega
                obtain ⟨p, bdA, hpa, hla⟩ := look_at (HXA4.out _ hm) (allS a b)[k] hsl
                obtain ⟨q, bdB, hqb, hlb⟩ := look_at (HXB4.out _ hm) (allS a b)[k] hsl
                have hla1 := hla wr (Mod.refl _ _)
                have hlb1 := hlb (wr.alloc (.cells (itQ p) 59)) (pure_alloc _ _)
                have hdt := dif_take hlt
                rw [← hout] at hdt
                generalize (allS a b)[k] = s at *
                have HDZ : Hid (∀ z, difF a b s = some z → ((allS a b).take (k + 1)).filterMap (difG a b) = out ++ [⟨s, z⟩]) := Lib.hid (fun z h => by rw [hdt, h])
                have HDN : Hid (difF a b s = none → ((allS a b).take (k + 1)).filterMap (difG a b) = out) := Lib.hid (fun h => by rw [hdt, h])
                have HPA := Lib.hid hpa
                have HQB := Lib.hid hqb
                have HB1 := Lib.hid ((Blk.new wr 59 (itQ p)).alloc (.cells (itQ q) 59))
                have HB2 := Lib.hid (Blk.new (wr.alloc (.cells (itQ p) 59)) 59 (itQ q))
                have HP11 := Lib.hid ((pure_alloc wr (.cells (itQ p) 59)).trans (pure_alloc (wr.alloc (.cells (itQ p) 59)) (.cells (itQ q) 59)))
                have HOW := Lib.hid (own_pure hown HP11.out)
                have HMM := Lib.hid (hm.trans HP11.out)
                have hb11 : base ≤ ((wr.alloc (.cells (itQ p) 59)).alloc (.cells (itQ q) 59)).heap.size := by rw [World.size_alloc, World.size_alloc]; omega
                rw [World.size_alloc] at HB2
                clear S1 hrow hdt hpa hqb hla hlb hown hm hout HK4 HXA4 HXB4 HP11 HZA HZB
                unfold itQ at hlb1
                unfold itA at hla1 hlb1
                go_upto_region 20 with (fail)
                have hgr11 : wr.heap.size + 2 = ((wr.alloc (.cells (itQ p) 59)).alloc (.cells (itQ q) 59)).heap.size := by rw [World.size_alloc, World.size_alloc]
                unfold itQ at HB1 HB2 HOW HMM hb11 hgr11
                generalize (World.alloc (World.alloc wr _) _) = w11 at *
                obtain ⟨g9, hg9⟩ : ∃ g9, g9 = wr.heap.size := ⟨_, rfl⟩
                rw [← hg9] at HB1 HB2 hgr11 ⊢
                clear hg9
                have own11 := HOW.out
                have hm11 := HMM.out
                have hB1 := HB1.out
                have hB2 := HB2.out
                clear hla1 hlb1 HB1 HB2 HOW HMM
                have c0 := hB1.cell 0; have c1 := hB1.cell 1; have c2 := hB1.cell 2; have c3 := hB1.cell 3; have c4 := hB1.cell 4; have c5 := hB1.cell 5; have c6 := hB1.cell 6; simp at c0 c1 c2 c3 c4 c5 c6
                have d0 := hB2.cell 0; have d1 := hB2.cell 1; have d2 := hB2.cell 2; have d3 := hB2.cell 3; have d4 := hB2.cell 4; have d5 := hB2.cell 5; have d6 := hB2.cell 6; simp at d0 d1 d2 d3 d4 d5 d6
                clear hB1 hB2
                rcases HPA.out with ⟨hpa, rfl⟩ | ⟨hpa, rfl⟩
                · rcases HQB.out with ⟨hqb, rfl⟩ | ⟨hqb, rfl⟩
                  · exact absurd (difF_nn HMS.out hpa hqb) id
                  · have HF := Lib.hid (difF_ns hpa hqb)
                    clear hpa hqb HPA HQB HDN
                    go_wp2_with (at_builtin; refine wpList_append_lies _ rfl _ _ _ rfl base 68 i0 _ 2 24 Tryz.underlying63 hi0 hz0 hz1 hz2 rfl (by omega) (.slice Ao out.length cap) out.length (chgV out) rfl (own11.alloc _) ⟨w11.heap.size, 0, none⟩ 1 1 [.string ⟨s.toArray⟩, .int .i64 1] rfl rfl (World.news_of_block (cs := #[.string ⟨s.toArray⟩, .int .i64 1]) (t := 68) (fr := (0, 0)) (heap_alloc_new w11 _)) (by simp [Value.oneCell']) (by omega) (by simp [maxLen]; omega) (by omega) (by have := hm11.size; simp; omega) (w11.heap.size + 1) (by simp) ?_; intro g5 cap5 w5 hown5 hgrow hat hlt5)
                    go_roundg ((allS a b).length - (k + 1))
                    case measure => omega
                    case rel =>
                      refine ⟨k + 1, out ++ [⟨s, 1⟩], some ⟨g5, 0, none⟩, cap5, rfl, by omega, by simp, by simp, (HDZ.out _ HF.out).symm, by simp; omega, ?_, (hm11.alloc _).grown hgrow (fun j hj => .inr (by have := own_block own11 j hj; omega)), by have := hgrow.size; simp at this; omega⟩
                      rw [chg_snoc]
                      simpa using hown5
                · rcases HQB.out with ⟨hqb, rfl⟩ | ⟨hqb, rfl⟩
                  · have HF := Lib.hid (difF_sn hpa hqb)
                    clear hpa hqb HPA HQB HDN
                    go_wp2_with (at_builtin; refine wpList_append_lies _ rfl _ _ _ rfl base 68 i0 _ 2 24 Tryz.underlying63 hi0 hz0 hz1 hz2 rfl (by omega) (.slice Ao out.length cap) out.length (chgV out) rfl (own11.alloc _) ⟨w11.heap.size, 0, none⟩ 1 1 [.string ⟨s.toArray⟩, .int .i64 2] rfl rfl (World.news_of_block (cs := #[.string ⟨s.toArray⟩, .int .i64 2]) (t := 68) (fr := (0, 0)) (heap_alloc_new w11 _)) (by simp [Value.oneCell']) (by omega) (by simp [maxLen]; omega) (by omega) (by have := hm11.size; simp; omega) (w11.heap.size + 1) (by simp) ?_; intro g5 cap5 w5 hown5 hgrow hat hlt5)
                    go_roundg ((allS a b).length - (k + 1))
                    case measure => omega
                    case rel =>
                      refine ⟨k + 1, out ++ [⟨s, 2⟩], some ⟨g5, 0, none⟩, cap5, rfl, by omega, by simp, by simp, (HDZ.out _ HF.out).symm, by simp; omega, ?_, (hm11.alloc _).grown hgrow (fun j hj => .inr (by have := own_block own11 j hj; omega)), by have := hgrow.size; simp at this; omega⟩
                      rw [chg_snoc]
                      simpa using hown5
                  · have hds := difF_ss hpa hqb
                    clear hpa hqb HPA HQB HMS
                    by_cases ht : p.text = q.text
                    · rw [if_neg (by simpa using ht)] at hds
                      have hneq := neqItm p q
                      have hgrd : ∀ (op : BinOp) (a b : Operand) (w : World), Sem.run Tryz.prog (eqGuard op 59 a b (itA p) (itA q)) w = .ok () w := fun op a b w => guardItm op a b p q w
                      obtain ⟨qe, hqe⟩ : ∃ qe, itEq p q = qe := ⟨_, rfl⟩
                      rw [hqe] at hds hneq
                      have HT := Lib.hid ht
                      unfold itA at hneq hgrd
                      have hts : (p.text != q.text) = false := by rw [HT.out]; simp
                      have hte : (p.text == q.text) = true := by rw [HT.out]; simp
                      clear ht hqe
                      cases qe
                      · have HF := Lib.hid hds
                        clear hds HDN
                        go_wp2_with (at_builtin; refine wpList_append_lies _ rfl _ _ _ rfl base 68 i0 _ 2 24 Tryz.underlying63 hi0 hz0 hz1 hz2 rfl (by omega) (.slice Ao out.length cap) out.length (chgV out) rfl (own11.alloc _) ⟨w11.heap.size, 0, none⟩ 1 1 [.string ⟨s.toArray⟩, .int .i64 4] rfl rfl (World.news_of_block (cs := #[.string ⟨s.toArray⟩, .int .i64 4]) (t := 68) (fr := (0, 0)) (heap_alloc_new w11 _)) (by simp [Value.oneCell']) (by omega) (by simp [maxLen]; omega) (by omega) (by have := hm11.size; simp; omega) (w11.heap.size + 1) (by simp) ?_; intro g5 cap5 w5 hown5 hgrow hat hlt5)
                        go_roundg ((allS a b).length - (k + 1))
                        case measure => omega
                        case rel =>
                          refine ⟨k + 1, out ++ [⟨s, 4⟩], some ⟨g5, 0, none⟩, cap5, rfl, by omega, by simp, by simp, (HDZ.out _ HF.out).symm, by simp; omega, ?_, (hm11.alloc _).grown hgrow (fun j hj => .inr (by have := own_block own11 j hj; omega)), by have := hgrow.size; simp at this; omega⟩
                          rw [chg_snoc]
                          simpa using hown5
                      · have HE := Lib.hid (HDN.out (by simpa using hds))
                        clear hds HDN HDZ
                        go_wp2_with fail
                        go_roundg ((allS a b).length - (k + 1))
                        case measure => omega
                        case rel => exact ⟨k + 1, out, Ao, cap, rfl, by omega, by simp, by simp, HE.out.symm, by omega, own11, hm11, by omega⟩
                    · rw [if_pos (by simpa using ht)] at hds
                      have HF := Lib.hid hds
                      have HT := Lib.hid ht
                      have hts : (p.text != q.text) = true := by simpa using ht
                      have hte : (p.text == q.text) = false := by simpa using ht
                      clear ht hds HDN
                      go_wp2_with (at_builtin; refine wpList_append_lies _ rfl _ _ _ rfl base 68 i0 _ 2 24 Tryz.underlying63 hi0 hz0 hz1 hz2 rfl (by omega) (.slice Ao out.length cap) out.length (chgV out) rfl (own11.alloc _) ⟨w11.heap.size, 0, none⟩ 1 1 [.string ⟨s.toArray⟩, .int .i64 3] rfl rfl (World.news_of_block (cs := #[.string ⟨s.toArray⟩, .int .i64 3]) (t := 68) (fr := (0, 0)) (heap_alloc_new w11 _)) (by simp [Value.oneCell']) (by omega) (by simp [maxLen]; omega) (by omega) (by have := hm11.size; simp; omega) (w11.heap.size + 1) (by simp) ?_; intro g5 cap5 w5 hown5 hgrow hat hlt5)
                      go_roundg ((allS a b).length - (k + 1))
                      case measure => omega
                      case rel =>
                        refine ⟨k + 1, out ++ [⟨s, 3⟩], some ⟨g5, 0, none⟩, cap5, rfl, by omega, by simp, by simp, (HDZ.out _ HF.out).symm, by simp; omega, ?_, (hm11.alloc _).grown hgrow (fun j hj => .inr (by have := own_block own11 j hj; omega)), by have := hgrow.size; simp at this; omega⟩
                        rw [chg_snoc]
                        simpa using hown5
              · obtain rfl : k = (allS a b).length := by omega
                rw [List.take_length] at hout
                have hout2 : out = difL a b := hout
                subst hout2
                have HO := Lib.hid (Sl.of_own hown)
                have HMF := Lib.hid (HM4.out.trans hm)
                clear hown hm HK4 HXA4 HXB4 HZA HZB hout
                go_wp2_with fail
                refine bodyPost_ret (v := .tuple #[.slice Ao (difL a b).length cap, .int .i64 0]) (by simp [results, Tryz.results28, go_sem]) rfl ?_
                exact ⟨Ao, _, cap, rfl, HO.out, HMF.out⟩
          · have hsl : s.length ≤ 1000000 := by
              unfold byF at hfs
              cases hq : fnd b s with
              | none => rw [hq] at hfs; cases hfs
              | some p =>
                obtain ⟨hp1, hp2⟩ := atS_mem (l := b) (s := s) (x := p) hq
                have := (HZB.out p hp1).1
                rw [← hp2]
                omega
            obtain ⟨w9, hrun9, hset9, hm9⟩ := (hset.mod hm2 (by omega)).add (t := 97) Tryz.underlying97 (by omega) s hsl
            have HRG9 := Lib.hid (hrg2.mod hm9 (by omega) (by omega))
            have HST9 := Lib.hid hset9
            have HKY := Lib.hid (hky.step hfs)
            have HM9 := Lib.hid ((hm.trans' hm2 (fun k hk hl => by omega)).trans' hm9 (fun k hk hl => by omega))
            clear hrg hset hky hm hrg2 hm2 hset9 hm9 hsz2
            go_wp2_with fail
            go_roundg cnt2
            case measure => exact hlt2
            case rel => exact ⟨_, S2 ++ [s], n2 + 1, HRG9.out, HST9.out, by omega, HKY.out, HM9.out⟩
      · have hsl : s.length ≤ 1000000 := by
          unfold byF at hfs
          cases hq : fnd a s with
          | none => rw [hq] at hfs; cases hfs
          | some p =>
            obtain ⟨hp1, hp2⟩ := atS_mem (l := a) (s := s) (x := p) hq
            have := (HZA.out p hp1).1
            rw [← hp2]
            omega
        obtain ⟨w9, hrun9, hset9, hm9⟩ := (hset.mod hm2 (by omega)).add (t := 97) Tryz.underlying97 (by omega) s hsl
        have HRG9 := Lib.hid (hrg2.mod hm9 (by omega) (by omega))
        have HST9 := Lib.hid hset9
        have HKY := Lib.hid (hky.step hfs)
        have HM9 := Lib.hid ((hm.trans' hm2 (fun k hk hl => by omega)).trans' hm9 (fun k hk hl => by omega))
        clear hrg hset hky hm hrg2 hm2 hset9 hm9 hsz2
        go_wp2_with fail
        go_roundg cnt2
        case measure => exact hlt2
        case rel => exact ⟨_, S ++ [s], n + 1, HRG9.out, HST9.out, by omega, HKY.out, HM9.out⟩
  · have h0' : (de != 0) = true := by simpa using h0
    have H0 := Lib.hid h0
    clear h0 HBA HBB HZA HZB HDE
    go_wp2_with fail
    refine bodyPost_ret (v := .tuple #[.slice none 0 0, .int .i64 de]) (by simp [results, Tryz.results28, go_sem]) rfl ?_
    exact ⟨none, 0, 0, rfl, fun _ => ⟨rfl, rfl, rfl⟩, fun h => absurd h H0.out, HM3.out⟩

end Go.Proofs.YtbdeicbdehgeiaaGreatDoor

/- Differ of the reference. -/
namespace Go.Proofs.YtbdeicbdehgeiaaGreatDoor
set_option linter.unusedVariables false
set_option linter.unusedSimpArgs false
open Go.RowKit Go.Sort


set_option maxRecDepth 100000 in
set_option maxHeartbeats 1000000 in
theorem chgC1_calls (x y : Chg) (W : World) : Calls Tryz.prog 83 #[.agg (chgC x).toArray, .agg (chgC y).toArray] W (GrowPost W (cfBy (fun z : Chg => z.id) x y)) := by
  have H := fun W' => Any.strings_Compare Tryz.cmpStrK ⟨x.id.toArray⟩ ⟨y.id.toArray⟩ W'
  change ∀ W', Calls Tryz.prog 78 #[.string ⟨x.id.toArray⟩, .string ⟨y.id.toArray⟩] W' (fun e w' => e = .returned (.int .i64 (cfBy (fun z : Chg => z.id) x y)) ∧ w' = W') at H
  generalize cfBy (fun z : Chg => z.id) x y = c at *
  have HC := Lib.hid H
  clear H
  unfold chgC
  go_enter Tryz.func83, Tryz.ntmps83
  go_wp2_with fail
  refine (HC.out _).mono ?_
  rintro e w' ⟨rfl, rfl⟩
  go_wp2_with fail
  go_ret
  exact ⟨rfl, 0, _, by rw [alloc_eq_grow, alloc_eq_grow, grow_grow]; rfl⟩

theorem atS_plc {l : List Itm} {s : Str} {k : Nat} (h : plc l s = some k) : ∃ hk : k < l.length, atS l s = some l[k] := by
  obtain ⟨hk, _⟩ := plc_lt l s k h
  exact ⟨hk, by unfold atS; rw [h]; simp [hk]⟩
theorem atS_noplc {l : List Itm} {s : Str} (h : plc l s = none) : atS l s = none := by unfold atS; rw [h]; rfl
def dfU1 (a b : List Itm) (k : Nat) : List Chg := (a.take k).filterMap fun x => difG a b x.id
def dfU2 (a b : List Itm) (k : Nat) : List Chg := dfU1 a b a.length ++ (b.take k).filterMap fun x => if atS a x.id = none then some ⟨x.id, 1⟩ else none
theorem dfU1_z (a b : List Itm) : dfU1 a b 0 = [] := by simp [dfU1]
theorem dfU2_z (a b : List Itm) : dfU2 a b 0 = dfU1 a b a.length := by simp [dfU2]
theorem dfU_all (a b : List Itm) : dfU2 a b b.length = difU a b := by simp [dfU2, dfU1, difU]
theorem dfU1_s {a b : List Itm} {k : Nat} (h : k < a.length) : dfU1 a b (k + 1) = match difF a b a[k].id with
    | none => dfU1 a b k
    | some z => dfU1 a b k ++ [⟨a[k].id, z⟩] := by
  unfold dfU1
  rw [List.take_succ_eq_append_getElem h, List.filterMap_append, List.filterMap_cons, List.filterMap_nil]
  unfold difG
  cases difF a b a[k].id <;> simp
theorem dfU2_s {a b : List Itm} {k : Nat} (h : k < b.length) : dfU2 a b (k + 1) = if atS a b[k].id = none then dfU2 a b k ++ [⟨b[k].id, 1⟩] else dfU2 a b k := by
  unfold dfU2
  rw [List.take_succ_eq_append_getElem h, List.filterMap_append, List.filterMap_cons, List.filterMap_nil]
  by_cases h0 : atS a b[k].id = none <;> simp [h0]
theorem difU_nodup {a b : List Itm} (ha : a.Pairwise fun x y => x.id ≠ y.id) (hb : b.Pairwise fun x y => x.id ≠ y.id) : ((difU a b).map fun z => z.id).Nodup := by
  unfold difU
  rw [List.map_append, List.nodup_append]
  refine ⟨List.pairwise_map.2 (List.pairwise_filterMap.2 (ha.imp fun {x y} hxy c hc d hd => ?_)), List.pairwise_map.2 (List.pairwise_filterMap.2 (hb.imp fun {x y} hxy c hc d hd => ?_)), fun s hs t ht hst => ?_⟩
  · rw [difG_id hc, difG_id hd]
    exact hxy
  · split at hc
    · split at hd
      · injection hc with hc
        injection hd with hd
        rw [← hc, ← hd]
        exact hxy
      · cases hd
    · cases hc
  · subst hst
    obtain ⟨c, hc, hcs⟩ := List.mem_map.1 hs
    obtain ⟨d, hd, hds⟩ := List.mem_map.1 ht
    obtain ⟨x, hx, hxc⟩ := List.mem_filterMap.1 hc
    obtain ⟨y, hy, hyd⟩ := List.mem_filterMap.1 hd
    split at hyd
    · rename_i hn
      injection hyd with hyd
      refine atS_none.1 hn x hx ?_
      rw [← difG_id hxc, hcs, ← hds, ← hyd]
    · cases hyd
def DoR1 (w : World) (a b : List Itm) (gk : Nat) (x i : Value) (wr : World) : Prop :=
  ∃ (k : Nat) (out : List Chg) (A : Option Addr) (cap : Nat), a.length - k = gk ∧ k ≤ a.length ∧ x = .slice A out.length cap ∧ i = .int .i64 (k : Int) ∧ dfU1 a b k = out ∧ out.length ≤ k ∧
    wr.ownsRow w.heap.size 68 2 (.slice A out.length cap) out.length (chgV out) ∧ Pure w wr ∧ w.heap.size ≤ wr.heap.size
def DoR2 (w : World) (a b : List Itm) (gk : Nat) (x i : Value) (wr : World) : Prop :=
  ∃ (k : Nat) (out : List Chg) (A : Option Addr) (cap : Nat), b.length - k = gk ∧ k ≤ b.length ∧ x = .slice A out.length cap ∧ i = .int .i64 (k : Int) ∧ dfU2 a b k = out ∧ out.length ≤ a.length + k ∧
    wr.ownsRow w.heap.size 68 2 (.slice A out.length cap) out.length (chgV out) ∧ Pure w wr ∧ w.heap.size ≤ wr.heap.size
def DofPost (w : World) (a b : List Itm) (e : Ending) (w' : World) : Prop := ∃ (A : Option Addr) (n c : Nat), e = .returned (.slice A n c) ∧ Sl w' 68 2 (.slice A n c) (chgV (difL a b)) ∧ Pure w w'

set_option maxRecDepth 100000 in
set_option maxHeartbeats 16000000 in
theorem differOf_calls (w : World) (va vb : Value) (a b : List Itm) (hva : Its w va a) (hvb : Its w vb b) (hda : a.Pairwise fun x y => x.id ≠ y.id) (hdb : b.Pairwise fun x y => x.id ≠ y.id) (hla : a.length ≤ 1000) (hlb : b.length ≤ 1000) : Calls Tryz.prog 30 #[va, vb] w (DofPost w a b) := by
  obtain ⟨i0, hi0, hz0, hz1, hz2⟩ := info_parts info_chg
  have HPA : Hid (∀ W, Pure w W → ∀ s, Calls Tryz.prog 49 #[va, .string ⟨s.toArray⟩] W (IntPost W (plcZ a s))) := Lib.hid (fun W h s => place_calls W va a s (hva.pure h))
  have HPB : Hid (∀ W, Pure w W → ∀ s, Calls Tryz.prog 49 #[vb, .string ⟨s.toArray⟩] W (IntPost W (plcZ b s))) := Lib.hid (fun W h s => place_calls W vb b s (hvb.pure h))
  have HSELF : Hid (∀ k (h : k < a.length), atS a a[k].id = some a[k]) := Lib.hid (fun k h => atS_self hda (List.getElem_mem h))
  have HND := Lib.hid (difU_nodup hda hdb)
  obtain ⟨A1, n1, c1, rfl, hc1, hc2, hl1, hr1⟩ := hva
  obtain ⟨A2, n2, c2, rfl, hd1, hd2, hl2, hr2⟩ := hvb
  have hln1 : a.length = n1 := by rw [itV_len] at hl1; omega
  have hln2 : b.length = n2 := by rw [itV_len] at hl2; omega
  subst hln1 hln2
  have HRA := Lib.hid hr1
  have HRB := Lib.hid hr2
  clear hl1 hl2 hr1 hr2 hda hdb
  go_enter Tryz.func30, Tryz.ntmps30
  go_wp2_with fail
  go_loopg [5, 13] a.length (fun gk x i wr => DoR1 w a b gk x i wr)
  case atStart => exact ⟨0, [], none, 0, by omega, by omega, rfl, rfl, dfU1_z a b, by simp, World.ownsRow_nil _ _ _ _, Mod.refl _ _, by omega⟩
  case round =>
    obtain ⟨k, out, Ao, cap, rfl, hk, rfl, rfl, hout, hol, hown, hm, hbs⟩ := hrel
    by_cases hlt : k < a.length
    · obtain ⟨gr, off, rfl, hrow⟩ := HRA.out (by omega)
      obtain ⟨q0, q1, q2, q3, q4, q5, q6⟩ := item_cells (hrow.mod hm id) hlt
      have hst := dfU1_s (b := b) hlt
      rw [hout] at hst
      have hsf := HSELF.out k hlt
      have i1 : (0 : Int) ≤ (k : Int) := by omega
      have i2 : (k : Int) < (a.length : Int) := by omega
      clear hrow hout
      generalize a[k] = x at *
      have HM4 := Lib.hid (hm.alloc (.cells (itQ x) 59))
      have HOW4 := Lib.hid (own_pure hown (pure_alloc _ (.cells (itQ x) 59)))
      have HB4 := Lib.hid (Blk.new wr 59 (itQ x))
      have hbs4 : w.heap.size ≤ (wr.alloc (.cells (itQ x) 59)).heap.size := by rw [World.size_alloc]; omega
      unfold itQ at HM4 HOW4 HB4 hbs4
      have HST := Lib.hid hst
      have HSF := Lib.hid hsf
      clear hown hm hst hsf
      go_upto_region 5 with (fail)
      generalize (wr.alloc (.cells #[.string ⟨x.id.toArray⟩, .string ⟨x.cust.toArray⟩, .int .i64 x.kind, .string ⟨x.name.toArray⟩, .int .i64 x.tm, .string ⟨x.par.toArray⟩, .string ⟨x.text.toArray⟩] 59)) = w4 at *
      generalize wr.heap.size = gi at *
      have hgi : gi < w4.heap.size := HB4.out.lt
      have hB4 := HB4.out
      have d0 := hB4.cell 0; have d1 := hB4.cell 1; have d2 := hB4.cell 2; have d3 := hB4.cell 3; have d4 := hB4.cell 4; have d5 := hB4.cell 5; have d6 := hB4.cell 6; simp at d0 d1 d2 d3 d4 d5 d6
      have HCA := Lib.hid (HPB.out w4 HM4.out x.id)
      clear hB4 q0 q1 q2 q3 q4 q5 q6
      obtain ⟨z, hzz⟩ : ∃ z, plcZ b x.id = z := ⟨_, rfl⟩
      have HZZ := Lib.hid hzz
      rw [hzz] at HCA
      clear hzz
      go_wp2_with fail
      refine HCA.out.mono ?_
      rintro e w5 ⟨rfl, m5⟩
      clear d0 d1 d2 d3 d4 d5 d6
      have hB5 := HB4.out.modp m5
      have own5 := own_pure HOW4.out m5
      have hm5 := HM4.out.trans m5
      have hbs5 : w.heap.size ≤ w5.heap.size := by have := m5.size; omega
      have hgi5 : gi < w5.heap.size := by have := m5.size; omega
      clear HCA HB4 HOW4 HM4 m5 hgi hbs4
      cases hpl : plc b x.id with
      | none =>
        have hz : z = -1 := by rw [← HZZ.out]; unfold plcZ; rw [hpl]
        subst hz
        have HF := Lib.hid (difF_sn HSF.out (atS_noplc hpl))
        have HE : Hid (dfU1 a b (k + 1) = out ++ [⟨x.id, 2⟩]) := Lib.hid (by rw [HST.out, HF.out])
        have d0 := hB5.cell 0; have d1 := hB5.cell 1; have d2 := hB5.cell 2; have d3 := hB5.cell 3; have d4 := hB5.cell 4; have d5 := hB5.cell 5; have d6 := hB5.cell 6; simp at d0 d1 d2 d3 d4 d5 d6
        clear hpl HF HST HSF HZZ hB5
        go_wp2_with (at_builtin; refine wpList_append_lies _ rfl _ _ _ rfl w.heap.size 68 i0 _ 2 24 Tryz.underlying63 hi0 hz0 hz1 hz2 rfl (by omega) (.slice Ao out.length cap) out.length (chgV out) rfl (own5.alloc _) ⟨w5.heap.size, 0, none⟩ 1 1 [.string ⟨x.id.toArray⟩, .int .i64 2] rfl rfl (World.news_of_block (cs := #[.string ⟨x.id.toArray⟩, .int .i64 2]) (t := 68) (fr := (0, 0)) (heap_alloc_new w5 _)) (by simp [Value.oneCell']) (by omega) (by simp [maxLen]; omega) (by omega) (by have := hm5.size; simp; omega) (w5.heap.size + 1) (by simp) ?_; intro g5 cap5 w5 hown5 hgrow hat hlt5)
        go_roundg (a.length - (k + 1))
        case measure => omega
        case rel =>
          refine ⟨k + 1, out ++ [⟨x.id, 2⟩], some ⟨g5, 0, none⟩, cap5, by omega, by omega, by simp, by simp, HE.out, by simp; omega, ?_, (hm5.alloc _).grown hgrow (fun j hj => .inr (by have := own_block own5 j hj; omega)), by have := hgrow.size; simp at this; omega⟩
          rw [chg_snoc]
          simpa using hown5
      | some j =>
        obtain ⟨hj, haj⟩ := atS_plc hpl
        have hz : z = (j : Int) := by rw [← HZZ.out]; unfold plcZ; rw [hpl]
        subst hz
        have hk0 : (0 : Int) ≤ (j : Int) := by omega
        have hk1 : (j : Int) < (b.length : Int) := by omega
        obtain ⟨g2, o2, rfl, hrow2⟩ := HRB.out (by omega)
        have HCK : Hid (∀ W, Pure w5 W → _) := Lib.hid (fun W (h : Pure w5 W) => item_cells (hrow2.mod (hm5.trans h) id) hj)
        have hds := difF_ss HSF.out haj
        clear hpl haj HZZ hrow2 HSF
        generalize b[j] = y at *
        have HB5 := Lib.hid hB5
        have HOW5 := Lib.hid own5
        have HM5 := Lib.hid hm5
        have HBI : Hid (∀ W, Pure w5 W → _) := Lib.hid (fun W (h : Pure w5 W) => HB5.out.modp h)
        obtain ⟨tx, htx⟩ : ∃ tx, (x.text == y.text) = tx := ⟨_, rfl⟩
        have HTX := Lib.hid htx
        clear hB5 own5 hm5 
        go_wp2_with fail
        have HGs := Lib.hid (show ∀ (D : Nat → Bool) (zzi : Nat) (zq zq' : World), (fun _ zq => (fun Z => gi < Z.heap.size) zq) D zq → Mod (fun _ => False) zq zq' → (fun _ zq => (fun Z => gi < Z.heap.size) zq) (upd D zzi true) zq' from by intro D zzi zq zq' h hm; (exact Nat.lt_of_lt_of_le h hm.size))
        refine wp_region_inv (by kernel_rfl) (by kernel_rfl) (InvF (R := Mod (fun _ => False)) [.is (.pointer (some ⟨gi, 6, none⟩)),
            .is (.string ⟨x.text.toArray⟩),
            .is (.slice (some ⟨g2, o2, none⟩) b.length c2),
            .is (.int .i64 (j : Int)),
            .is (.pointer (some ⟨g2, o2 + j * 7, none⟩)),
            .is (.pointer (some ⟨g2, o2 + j * 7 + 6, none⟩)),
            .is (.string ⟨y.text.toArray⟩),
            .is (.bool (!tx)),
            .is (.bool (!tx))]
            (PB w5 (fun _ => False) w5.heap.size (fun _ zq => (fun Z => gi < Z.heap.size) zq))) (InvF.start (PB.start (Mod.refl _ _) (Nat.le_refl _) (hgi5))) ?_ ?_
        · refine .cons ?_ (.cons ?_ (.cons ?_ (.cons ?_ (.cons ?_ (.cons ?_ (.cons ?_ (.cons ?_ (.cons ?_ .nil))))))))
          · intro D V zw1 a hR hI K hK   -- 0: Op.fieldAddr 59 (Operand.tmp 7) 6
            obtain ⟨hM1, hB1, hG1⟩ := hI.1
            have ze7 := hR.frame.other (t := 7) (by kernel_rfl) rfl
            rw [if_pos (by rfl)]
            go_simp
            exact hK (.pointer (some ⟨gi, 6, none⟩)) _ (hI.next hR (by kernel_rfl) (Mod.refl _ _) (PB.quiet hI.1 (Mod.refl _ _) (HGs.out D 0 zw1 zw1 (hI.1).g (Mod.refl _ _))) (upd_same V 0 _))
          · intro D V zw1 a hR hI K hK   -- 1: Op.load 9 (Operand.tmp 31)
            obtain ⟨hM1, hB1, hG1⟩ := hI.1
            have zd0 := hR.pred 0 (by kernel_rfl)
            have zF0 : V 0 = .pointer (some ⟨gi, 6, none⟩) := hI.2 0 zd0 rfl
            have zf0 := zF0; clear zF0
            have ze31 := hR.frame.done (t := 31) (j := 0) (by kernel_rfl) hR.ok zd0
            have zx6 := (HBI.out zw1 hM1).cell 6; have zy6 := (HBI.out zw1 hM1).frozen 6; simp at zx6
            rw [if_pos (by rfl)]
            go_simp
            exact hK (.string ⟨x.text.toArray⟩) _ (hI.next hR (by kernel_rfl) (Mod.refl _ _) (PB.quiet hI.1 (Mod.refl _ _) (HGs.out D 1 zw1 zw1 (hI.1).g (Mod.refl _ _))) (upd_same V 1 _))
          · intro D V zw1 a hR hI K hK   -- 2: Op.move (Operand.tmp 1)
            obtain ⟨hM1, hB1, hG1⟩ := hI.1
            have ze1 := hR.frame.other (t := 1) (by kernel_rfl) rfl
            rw [if_pos (by rfl)]
            go_simp
            exact hK (.slice (some ⟨g2, o2, none⟩) b.length c2) _ (hI.next hR (by kernel_rfl) (Mod.refl _ _) (PB.quiet hI.1 (Mod.refl _ _) (HGs.out D 2 zw1 zw1 (hI.1).g (Mod.refl _ _))) (upd_same V 2 _))
          · intro D V zw1 a hR hI K hK   -- 3: Op.move (Operand.tmp 8)
            obtain ⟨hM1, hB1, hG1⟩ := hI.1
            have ze8 := hR.frame.other (t := 8) (by kernel_rfl) rfl
            rw [if_pos (by rfl)]
            go_simp
            exact hK (.int .i64 (j : Int)) _ (hI.next hR (by kernel_rfl) (Mod.refl _ _) (PB.quiet hI.1 (Mod.refl _ _) (HGs.out D 3 zw1 zw1 (hI.1).g (Mod.refl _ _))) (upd_same V 3 _))
          · intro D V zw1 a hR hI K hK   -- 4: Op.indexAddr 26 (Operand.tmp 33) (Operand.tmp 34)
            obtain ⟨hM1, hB1, hG1⟩ := hI.1
            have zd2 := hR.pred 2 (by kernel_rfl)
            have zF2 : V 2 = .slice (some ⟨g2, o2, none⟩) b.length c2 := hI.2 2 zd2 rfl
            have zf2 := zF2; clear zF2
            have zd3 := hR.pred 3 (by kernel_rfl)
            have zF3 : V 3 = .int .i64 (j : Int) := hI.2 3 zd3 rfl
            have zf3 := zF3; clear zF3
            have ze33 := hR.frame.done (t := 33) (j := 2) (by kernel_rfl) hR.ok zd2
            have ze34 := hR.frame.done (t := 34) (j := 3) (by kernel_rfl) hR.ok zd3
            rw [if_pos (by rfl)]
            go_simp
            exact hK (.pointer (some ⟨g2, o2 + j * 7, none⟩)) _ (hI.next hR (by kernel_rfl) (Mod.refl _ _) (PB.quiet hI.1 (Mod.refl _ _) (HGs.out D 4 zw1 zw1 (hI.1).g (Mod.refl _ _))) (upd_same V 4 _))
          · intro D V zw1 a hR hI K hK   -- 5: Op.fieldAddr 59 (Operand.tmp 35) 6
            obtain ⟨hM1, hB1, hG1⟩ := hI.1
            have zd4 := hR.pred 4 (by kernel_rfl)
            have zF4 : V 4 = .pointer (some ⟨g2, o2 + j * 7, none⟩) := hI.2 4 zd4 rfl
            have zf4 := zF4; clear zF4
            have ze35 := hR.frame.done (t := 35) (j := 4) (by kernel_rfl) hR.ok zd4
            rw [if_pos (by rfl)]
            go_simp
            exact hK (.pointer (some ⟨g2, o2 + j * 7 + 6, none⟩)) _ (hI.next hR (by kernel_rfl) (Mod.refl _ _) (PB.quiet hI.1 (Mod.refl _ _) (HGs.out D 5 zw1 zw1 (hI.1).g (Mod.refl _ _))) (upd_same V 5 _))
          · intro D V zw1 a hR hI K hK   -- 6: Op.load 9 (Operand.tmp 36)
            obtain ⟨hM1, hB1, hG1⟩ := hI.1
            have zd5 := hR.pred 5 (by kernel_rfl)
            have zF5 : V 5 = .pointer (some ⟨g2, o2 + j * 7 + 6, none⟩) := hI.2 5 zd5 rfl
            have zf5 := zF5; clear zF5
            have ze36 := hR.frame.done (t := 36) (j := 5) (by kernel_rfl) hR.ok zd5
            obtain ⟨zx0, zx1, zx2, zx3, zx4, zx5, zx6⟩ := HCK.out zw1 hM1
            rw [if_pos (by rfl)]
            go_simp
            exact hK (.string ⟨y.text.toArray⟩) _ (hI.next hR (by kernel_rfl) (Mod.refl _ _) (PB.quiet hI.1 (Mod.refl _ _) (HGs.out D 6 zw1 zw1 (hI.1).g (Mod.refl _ _))) (upd_same V 6 _))
          · intro D V zw1 a hR hI K hK   -- 7: Op.binOp BinOp.neq 9 (Operand.tmp 32) (Operand.tmp 37) 9
            obtain ⟨hM1, hB1, hG1⟩ := hI.1
            have zd1 := hR.pred 1 (by kernel_rfl)
            have zF1 : V 1 = .string ⟨x.text.toArray⟩ := hI.2 1 zd1 rfl
            have zf1 := zF1; clear zF1
            have zd6 := hR.pred 6 (by kernel_rfl)
            have zF6 : V 6 = .string ⟨y.text.toArray⟩ := hI.2 6 zd6 rfl
            have zf6 := zF6; clear zF6
            have ze32 := hR.frame.done (t := 32) (j := 1) (by kernel_rfl) hR.ok zd1
            have ze37 := hR.frame.done (t := 37) (j := 6) (by kernel_rfl) hR.ok zd6
            rw [if_pos (by rfl)]
            go_simp
            exact hK (.bool (!tx)) _ (hI.next hR (by kernel_rfl) (Mod.refl _ _) (PB.quiet hI.1 (Mod.refl _ _) (HGs.out D 7 zw1 zw1 (hI.1).g (Mod.refl _ _))) (upd_same V 7 _))
          · intro D V zw1 a hR hI K hK   -- 8: Op.assign (Operand.tmp 38)
            obtain ⟨hM1, hB1, hG1⟩ := hI.1
            have zd7 := hR.pred 7 (by kernel_rfl)
            have zF7 : V 7 = .bool (!tx) := hI.2 7 zd7 rfl
            have zf7 := zF7; clear zF7
            have ze38 := hR.frame.done (t := 38) (j := 7) (by kernel_rfl) hR.ok zd7
            rw [if_pos (by rfl)]
            go_simp
            exact hK (.bool (!tx)) _ (hI.next hR (by kernel_rfl) (Mod.refl _ _) (PB.quiet hI.1 (Mod.refl _ _) (HGs.out D 8 zw1 zw1 (hI.1).g (Mod.refl _ _))) (upd_same V 8 _))
        · intro D V w6 hD hI
          obtain ⟨hM1, hB1, hG1⟩ := hI.1
          have hMx := hM1
          clear hM1
          have hBx := hB1
          clear hB1
          have hGx := hG1
          clear hG1
          have zF0 : V 0 = .pointer (some ⟨gi, 6, none⟩) := hI.2 0 (hD 0 (by decide)) rfl
          have zf0 := zF0; clear zF0
          have zF1 : V 1 = .string ⟨x.text.toArray⟩ := hI.2 1 (hD 1 (by decide)) rfl
          have zf1 := zF1; clear zF1
          have zF2 : V 2 = .slice (some ⟨g2, o2, none⟩) b.length c2 := hI.2 2 (hD 2 (by decide)) rfl
          have zf2 := zF2; clear zF2
          have zF3 : V 3 = .int .i64 (j : Int) := hI.2 3 (hD 3 (by decide)) rfl
          have zf3 := zF3; clear zF3
          have zF4 : V 4 = .pointer (some ⟨g2, o2 + j * 7, none⟩) := hI.2 4 (hD 4 (by decide)) rfl
          have zf4 := zF4; clear zF4
          have zF5 : V 5 = .pointer (some ⟨g2, o2 + j * 7 + 6, none⟩) := hI.2 5 (hD 5 (by decide)) rfl
          have zf5 := zF5; clear zF5
          have zF6 : V 6 = .string ⟨y.text.toArray⟩ := hI.2 6 (hD 6 (by decide)) rfl
          have zf6 := zF6; clear zF6
          have zF7 : V 7 = .bool (!tx) := hI.2 7 (hD 7 (by decide)) rfl
          have zf7 := zF7; clear zF7
          have zF8 : V 8 = .bool (!tx) := hI.2 8 (hD 8 (by decide)) rfl
          have zf8 := zF8; clear zF8
          clear hI hD HGs
          simp only [frAll, Act.put, List.setIfInBounds_toArray, List.set_cons_zero, List.set_cons_succ, Nat.zero_add, Nat.reduceAdd, zf0, zf1, zf2, zf3, zf4, zf5, zf6, zf7, zf8]
          clear zf0 zf1 zf2 zf3 zf4 zf5 zf6 zf7 zf8
          clear V D
          have HM6 := Lib.hid (HM5.out.trans hMx)
          have own6 := own_pure HOW5.out hMx
          have hbs6 : w.heap.size ≤ w6.heap.size := by have := hMx.size; omega
          have hB6 := HBI.out w6 hMx
          have hgi6 : gi < w6.heap.size := by have := hMx.size; omega
          have hMx6 := hMx
          clear htx hMx
          cases tx
          · have ht : ¬ x.text = y.text := by simpa using HTX.out
            rw [if_pos (by simpa using ht)] at hds
            have hm6 := HM6.out
            have HE : Hid (dfU1 a b (k + 1) = out ++ [⟨x.id, 3⟩]) := Lib.hid (by rw [HST.out, hds])
            have d0 := hB6.cell 0; have d1 := hB6.cell 1; have d2 := hB6.cell 2; have d3 := hB6.cell 3; have d4 := hB6.cell 4; have d5 := hB6.cell 5; have d6 := hB6.cell 6; simp at d0 d1 d2 d3 d4 d5 d6
            clear hds ht hB6 HBI HCK HOW5 HM5 HB5 HTX hMx6 HST HM6
            go_wp2_with (at_builtin; refine wpList_append_lies _ rfl _ _ _ rfl w.heap.size 68 i0 _ 2 24 Tryz.underlying63 hi0 hz0 hz1 hz2 rfl (by omega) (.slice Ao out.length cap) out.length (chgV out) rfl (own6.alloc _) ⟨w6.heap.size, 0, none⟩ 1 1 [.string ⟨x.id.toArray⟩, .int .i64 3] rfl rfl (World.news_of_block (cs := #[.string ⟨x.id.toArray⟩, .int .i64 3]) (t := 68) (fr := (0, 0)) (heap_alloc_new w6 _)) (by simp [Value.oneCell']) (by omega) (by simp [maxLen]; omega) (by omega) (by have := hm6.size; simp; omega) (w6.heap.size + 1) (by simp) ?_; intro g5 cap5 w5 hown5 hgrow hat hlt5)
            go_roundg (a.length - (k + 1))
            case measure => omega
            case rel =>
              refine ⟨k + 1, out ++ [⟨x.id, 3⟩], some ⟨g5, 0, none⟩, cap5, by omega, by omega, by simp, by simp, HE.out, by simp; omega, ?_, (hm6.alloc _).grown hgrow (fun j hj => .inr (by have := own_block own6 j hj; omega)), by have := hgrow.size; simp at this; omega⟩
              rw [chg_snoc]
              simpa using hown5
          · have ht : x.text = y.text := by simpa using HTX.out
            rw [if_neg (by simpa using ht)] at hds
            have HDS := Lib.hid hds
            have HOW6 := Lib.hid own6
            have HBI6 : Hid (∀ W, Pure w6 W → _) := Lib.hid (fun W (h : Pure w6 W) => HBI.out W (hMx6.trans h))
            have HCK6 : Hid (∀ W, Pure w6 W → _) := Lib.hid (fun W (h : Pure w6 W) => HCK.out W (hMx6.trans h))
            have hneq := neqItm x y
            have hgrd : ∀ (op : BinOp) (a b : Operand) (w : World), Sem.run Tryz.prog (eqGuard op 59 a b (itA x) (itA y)) w = .ok () w := fun op a b w => guardItm op a b x y w
            obtain ⟨qe, hqe⟩ : ∃ qe, itEq x y = qe := ⟨_, rfl⟩
            have HQE := Lib.hid hqe
            rw [hqe] at hneq
            unfold itA at hneq hgrd
            clear hds ht hqe own6 hB6 HBI HCK HOW5 HM5 HB5 HTX hMx6
            go_wp2_with fail
            have HGs := Lib.hid (show ∀ (D : Nat → Bool) (zzi : Nat) (zq zq' : World), (fun _ zq => (fun Z => gi < Z.heap.size) zq) D zq → Mod (fun _ => False) zq zq' → (fun _ zq => (fun Z => gi < Z.heap.size) zq) (upd D zzi true) zq' from by intro D zzi zq zq' h hm; (exact Nat.lt_of_lt_of_le h hm.size))
            refine wp_region_inv (by kernel_rfl) (by kernel_rfl) (InvF (R := Mod (fun _ => False)) [.is (.agg #[.string ⟨x.id.toArray⟩, .string ⟨x.cust.toArray⟩, .int .i64 x.kind, .string ⟨x.name.toArray⟩, .int .i64 x.tm, .string ⟨x.par.toArray⟩, .string ⟨x.text.toArray⟩]),
                .is (.slice (some ⟨g2, o2, none⟩) b.length c2),
                .is (.int .i64 (j : Int)),
                .is (.pointer (some ⟨g2, o2 + j * 7, none⟩)),
                .is (.agg #[.string ⟨y.id.toArray⟩, .string ⟨y.cust.toArray⟩, .int .i64 y.kind, .string ⟨y.name.toArray⟩, .int .i64 y.tm, .string ⟨y.par.toArray⟩, .string ⟨y.text.toArray⟩]),
                .is (.bool (!qe)),
                .is (.bool (!qe))]
                (PB w6 (fun _ => False) w6.heap.size (fun _ zq => (fun Z => gi < Z.heap.size) zq))) (InvF.start (PB.start (Mod.refl _ _) (Nat.le_refl _) (hgi6))) ?_ ?_
            · refine .cons ?_ (.cons ?_ (.cons ?_ (.cons ?_ (.cons ?_ (.cons ?_ (.cons ?_ .nil))))))
              · intro D V zw1 a hR hI K hK   -- 0: Op.load 59 (Operand.tmp 7)
                obtain ⟨hM1, hB1, hG1⟩ := hI.1
                have ze7 := hR.frame.other (t := 7) (by kernel_rfl) rfl
                have zx0 := (HBI6.out zw1 hM1).cell 0; have zy0 := (HBI6.out zw1 hM1).frozen 0; simp at zx0
                have zx1 := (HBI6.out zw1 hM1).cell 1; have zy1 := (HBI6.out zw1 hM1).frozen 1; simp at zx1
                have zx2 := (HBI6.out zw1 hM1).cell 2; have zy2 := (HBI6.out zw1 hM1).frozen 2; simp at zx2
                have zx3 := (HBI6.out zw1 hM1).cell 3; have zy3 := (HBI6.out zw1 hM1).frozen 3; simp at zx3
                have zx4 := (HBI6.out zw1 hM1).cell 4; have zy4 := (HBI6.out zw1 hM1).frozen 4; simp at zx4
                have zx5 := (HBI6.out zw1 hM1).cell 5; have zy5 := (HBI6.out zw1 hM1).frozen 5; simp at zx5
                have zx6 := (HBI6.out zw1 hM1).cell 6; have zy6 := (HBI6.out zw1 hM1).frozen 6; simp at zx6
                rw [if_pos (by rfl)]
                go_simp
                exact hK (.agg #[.string ⟨x.id.toArray⟩, .string ⟨x.cust.toArray⟩, .int .i64 x.kind, .string ⟨x.name.toArray⟩, .int .i64 x.tm, .string ⟨x.par.toArray⟩, .string ⟨x.text.toArray⟩]) _ (hI.next hR (by kernel_rfl) (Mod.refl _ _) (PB.quiet hI.1 (Mod.refl _ _) (HGs.out D 0 zw1 zw1 (hI.1).g (Mod.refl _ _))) (upd_same V 0 _))
              · intro D V zw1 a hR hI K hK   -- 1: Op.move (Operand.tmp 1)
                obtain ⟨hM1, hB1, hG1⟩ := hI.1
                have ze1 := hR.frame.other (t := 1) (by kernel_rfl) rfl
                rw [if_pos (by rfl)]
                go_simp
                exact hK (.slice (some ⟨g2, o2, none⟩) b.length c2) _ (hI.next hR (by kernel_rfl) (Mod.refl _ _) (PB.quiet hI.1 (Mod.refl _ _) (HGs.out D 1 zw1 zw1 (hI.1).g (Mod.refl _ _))) (upd_same V 1 _))
              · intro D V zw1 a hR hI K hK   -- 2: Op.move (Operand.tmp 8)
                obtain ⟨hM1, hB1, hG1⟩ := hI.1
                have ze8 := hR.frame.other (t := 8) (by kernel_rfl) rfl
                rw [if_pos (by rfl)]
                go_simp
                exact hK (.int .i64 (j : Int)) _ (hI.next hR (by kernel_rfl) (Mod.refl _ _) (PB.quiet hI.1 (Mod.refl _ _) (HGs.out D 2 zw1 zw1 (hI.1).g (Mod.refl _ _))) (upd_same V 2 _))
              · intro D V zw1 a hR hI K hK   -- 3: Op.indexAddr 26 (Operand.tmp 47) (Operand.tmp 48)
                obtain ⟨hM1, hB1, hG1⟩ := hI.1
                have zd1 := hR.pred 1 (by kernel_rfl)
                have zF1 : V 1 = .slice (some ⟨g2, o2, none⟩) b.length c2 := hI.2 1 zd1 rfl
                have zf1 := zF1; clear zF1
                have zd2 := hR.pred 2 (by kernel_rfl)
                have zF2 : V 2 = .int .i64 (j : Int) := hI.2 2 zd2 rfl
                have zf2 := zF2; clear zF2
                have ze47 := hR.frame.done (t := 47) (j := 1) (by kernel_rfl) hR.ok zd1
                have ze48 := hR.frame.done (t := 48) (j := 2) (by kernel_rfl) hR.ok zd2
                rw [if_pos (by rfl)]
                go_simp
                exact hK (.pointer (some ⟨g2, o2 + j * 7, none⟩)) _ (hI.next hR (by kernel_rfl) (Mod.refl _ _) (PB.quiet hI.1 (Mod.refl _ _) (HGs.out D 3 zw1 zw1 (hI.1).g (Mod.refl _ _))) (upd_same V 3 _))
              · intro D V zw1 a hR hI K hK   -- 4: Op.load 59 (Operand.tmp 49)
                obtain ⟨hM1, hB1, hG1⟩ := hI.1
                have zd3 := hR.pred 3 (by kernel_rfl)
                have zF3 : V 3 = .pointer (some ⟨g2, o2 + j * 7, none⟩) := hI.2 3 zd3 rfl
                have zf3 := zF3; clear zF3
                have ze49 := hR.frame.done (t := 49) (j := 3) (by kernel_rfl) hR.ok zd3
                obtain ⟨zx0, zx1, zx2, zx3, zx4, zx5, zx6⟩ := HCK6.out zw1 hM1
                rw [if_pos (by rfl)]
                go_simp
                exact hK (.agg #[.string ⟨y.id.toArray⟩, .string ⟨y.cust.toArray⟩, .int .i64 y.kind, .string ⟨y.name.toArray⟩, .int .i64 y.tm, .string ⟨y.par.toArray⟩, .string ⟨y.text.toArray⟩]) _ (hI.next hR (by kernel_rfl) (Mod.refl _ _) (PB.quiet hI.1 (Mod.refl _ _) (HGs.out D 4 zw1 zw1 (hI.1).g (Mod.refl _ _))) (upd_same V 4 _))
              · intro D V zw1 a hR hI K hK   -- 5: Op.binOp BinOp.neq 59 (Operand.tmp 46) (Operand.tmp 50) 59
                obtain ⟨hM1, hB1, hG1⟩ := hI.1
                have zd0 := hR.pred 0 (by kernel_rfl)
                have zF0 : V 0 = .agg #[.string ⟨x.id.toArray⟩, .string ⟨x.cust.toArray⟩, .int .i64 x.kind, .string ⟨x.name.toArray⟩, .int .i64 x.tm, .string ⟨x.par.toArray⟩, .string ⟨x.text.toArray⟩] := hI.2 0 zd0 rfl
                have zf0 := zF0; clear zF0
                have zd4 := hR.pred 4 (by kernel_rfl)
                have zF4 : V 4 = .agg #[.string ⟨y.id.toArray⟩, .string ⟨y.cust.toArray⟩, .int .i64 y.kind, .string ⟨y.name.toArray⟩, .int .i64 y.tm, .string ⟨y.par.toArray⟩, .string ⟨y.text.toArray⟩] := hI.2 4 zd4 rfl
                have zf4 := zF4; clear zF4
                have ze46 := hR.frame.done (t := 46) (j := 0) (by kernel_rfl) hR.ok zd0
                have ze50 := hR.frame.done (t := 50) (j := 4) (by kernel_rfl) hR.ok zd4
                rw [if_pos (by rfl)]
                go_simp
                exact hK (.bool (!qe)) _ (hI.next hR (by kernel_rfl) (Mod.refl _ _) (PB.quiet hI.1 (Mod.refl _ _) (HGs.out D 5 zw1 zw1 (hI.1).g (Mod.refl _ _))) (upd_same V 5 _))
              · intro D V zw1 a hR hI K hK   -- 6: Op.assign (Operand.tmp 51)
                obtain ⟨hM1, hB1, hG1⟩ := hI.1
                have zd5 := hR.pred 5 (by kernel_rfl)
                have zF5 : V 5 = .bool (!qe) := hI.2 5 zd5 rfl
                have zf5 := zF5; clear zF5
                have ze51 := hR.frame.done (t := 51) (j := 5) (by kernel_rfl) hR.ok zd5
                rw [if_pos (by rfl)]
                go_simp
                exact hK (.bool (!qe)) _ (hI.next hR (by kernel_rfl) (Mod.refl _ _) (PB.quiet hI.1 (Mod.refl _ _) (HGs.out D 6 zw1 zw1 (hI.1).g (Mod.refl _ _))) (upd_same V 6 _))
            · intro D V w7 hD hI
              obtain ⟨hM1, hB1, hG1⟩ := hI.1
              have hMx := hM1
              clear hM1
              have hBx := hB1
              clear hB1
              have hGx := hG1
              clear hG1
              have zF0 : V 0 = .agg #[.string ⟨x.id.toArray⟩, .string ⟨x.cust.toArray⟩, .int .i64 x.kind, .string ⟨x.name.toArray⟩, .int .i64 x.tm, .string ⟨x.par.toArray⟩, .string ⟨x.text.toArray⟩] := hI.2 0 (hD 0 (by decide)) rfl
              have zf0 := zF0; clear zF0
              have zF1 : V 1 = .slice (some ⟨g2, o2, none⟩) b.length c2 := hI.2 1 (hD 1 (by decide)) rfl
              have zf1 := zF1; clear zF1
              have zF2 : V 2 = .int .i64 (j : Int) := hI.2 2 (hD 2 (by decide)) rfl
              have zf2 := zF2; clear zF2
              have zF3 : V 3 = .pointer (some ⟨g2, o2 + j * 7, none⟩) := hI.2 3 (hD 3 (by decide)) rfl
              have zf3 := zF3; clear zF3
              have zF4 : V 4 = .agg #[.string ⟨y.id.toArray⟩, .string ⟨y.cust.toArray⟩, .int .i64 y.kind, .string ⟨y.name.toArray⟩, .int .i64 y.tm, .string ⟨y.par.toArray⟩, .string ⟨y.text.toArray⟩] := hI.2 4 (hD 4 (by decide)) rfl
              have zf4 := zF4; clear zF4
              have zF5 : V 5 = .bool (!qe) := hI.2 5 (hD 5 (by decide)) rfl
              have zf5 := zF5; clear zF5
              have zF6 : V 6 = .bool (!qe) := hI.2 6 (hD 6 (by decide)) rfl
              have zf6 := zF6; clear zF6
              clear hI hD HGs
              simp only [frAll, Act.put, List.setIfInBounds_toArray, List.set_cons_zero, List.set_cons_succ, Nat.zero_add, Nat.reduceAdd, zf0, zf1, zf2, zf3, zf4, zf5, zf6]
              clear zf0 zf1 zf2 zf3 zf4 zf5 zf6
              clear V D
              have hm7 := HM6.out.trans hMx
              have own7 := own_pure HOW6.out hMx
              have hbs7 : w.heap.size ≤ w7.heap.size := by have := hMx.size; omega
              have hB7 := HBI6.out w7 hMx
              clear hneq hgrd HCK6 HBI6 HOW6 HM6 hMx
              cases qe
              · have HE : Hid (dfU1 a b (k + 1) = out ++ [⟨x.id, 4⟩]) := Lib.hid (by rw [HST.out, HDS.out, if_pos HQE.out])
                have d0 := hB7.cell 0; have d1 := hB7.cell 1; have d2 := hB7.cell 2; have d3 := hB7.cell 3; have d4 := hB7.cell 4; have d5 := hB7.cell 5; have d6 := hB7.cell 6; simp at d0 d1 d2 d3 d4 d5 d6
                clear hB7 HST HDS HQE
                go_wp2_with (at_builtin; refine wpList_append_lies _ rfl _ _ _ rfl w.heap.size 68 i0 _ 2 24 Tryz.underlying63 hi0 hz0 hz1 hz2 rfl (by omega) (.slice Ao out.length cap) out.length (chgV out) rfl (own7.alloc _) ⟨w7.heap.size, 0, none⟩ 1 1 [.string ⟨x.id.toArray⟩, .int .i64 4] rfl rfl (World.news_of_block (cs := #[.string ⟨x.id.toArray⟩, .int .i64 4]) (t := 68) (fr := (0, 0)) (heap_alloc_new w7 _)) (by simp [Value.oneCell']) (by omega) (by simp [maxLen]; omega) (by omega) (by have := hm7.size; simp; omega) (w7.heap.size + 1) (by simp) ?_; intro g5 cap5 w5 hown5 hgrow hat hlt5)
                go_roundg (a.length - (k + 1))
                case measure => omega
                case rel =>
                  refine ⟨k + 1, out ++ [⟨x.id, 4⟩], some ⟨g5, 0, none⟩, cap5, by omega, by omega, by simp, by simp, HE.out, by simp; omega, ?_, (hm7.alloc _).grown hgrow (fun j hj => .inr (by have := own_block own7 j hj; omega)), by have := hgrow.size; simp at this; omega⟩
                  rw [chg_snoc]
                  simpa using hown5
              · have HE : Hid (dfU1 a b (k + 1) = out) := Lib.hid (by rw [HST.out, HDS.out, if_neg (by rw [HQE.out]; simp)])
                clear hB7 HST HDS HQE
                go_wp2_with fail
                go_roundg (a.length - (k + 1))
                case measure => omega
                case rel => exact ⟨k + 1, out, Ao, cap, rfl, by omega, by simp, by simp, HE.out, by omega, own7, hm7, by omega⟩
    · obtain rfl : k = a.length := by omega
      have HM1 := Lib.hid hm
      have HOW1 := Lib.hid hown
      have HOE : Hid (dfU2 a b 0 = out) := Lib.hid (by rw [dfU2_z, hout])
      clear hown hm hout HSELF HPB
      go_wp2_with fail
      go_loopg [5, 61] b.length (fun gk x i wr => DoR2 w a b gk x i wr)
      case atStart => exact ⟨0, out, Ao, cap, by omega, by omega, rfl, rfl, HOE.out, by omega, HOW1.out, HM1.out, hbs⟩
      case round =>
        clear HM1 HOW1 HOE hbs hol
        obtain ⟨k, out, Ao, cap, rfl, hk, rfl, rfl, hout, hol, hown, hm, hbs⟩ := hrel
        by_cases hlt : k < b.length
        · obtain ⟨gr, off, rfl, hrow⟩ := HRB.out (by omega)
          obtain ⟨q0, q1, q2, q3, q4, q5, q6⟩ := item_cells (hrow.mod hm id) hlt
          have hst := dfU2_s (a := a) hlt
          rw [hout] at hst
          have i1 : (0 : Int) ≤ (k : Int) := by omega
          have i2 : (k : Int) < (b.length : Int) := by omega
          clear hrow hout
          generalize b[k] = x at *
          have HM4 := Lib.hid (hm.alloc (.cells (itQ x) 59))
          have HOW4 := Lib.hid (own_pure hown (pure_alloc _ (.cells (itQ x) 59)))
          have HB4 := Lib.hid (Blk.new wr 59 (itQ x))
          have hbs4 : w.heap.size ≤ (wr.alloc (.cells (itQ x) 59)).heap.size := by rw [World.size_alloc]; omega
          unfold itQ at HM4 HOW4 HB4 hbs4
          have HST := Lib.hid hst
          clear hown hm hst
          go_upto_region 16 with (fail)
          generalize (wr.alloc (.cells #[.string ⟨x.id.toArray⟩, .string ⟨x.cust.toArray⟩, .int .i64 x.kind, .string ⟨x.name.toArray⟩, .int .i64 x.tm, .string ⟨x.par.toArray⟩, .string ⟨x.text.toArray⟩] 59)) = w4 at *
          generalize wr.heap.size = gi at *
          have hB4 := HB4.out
          have d0 := hB4.cell 0; have d1 := hB4.cell 1; have d2 := hB4.cell 2; have d3 := hB4.cell 3; have d4 := hB4.cell 4; have d5 := hB4.cell 5; have d6 := hB4.cell 6; simp at d0 d1 d2 d3 d4 d5 d6
          have HCA := Lib.hid (HPA.out w4 HM4.out x.id)
          clear hB4 q0 q1 q2 q3 q4 q5 q6
          obtain ⟨z, hzz⟩ : ∃ z, plcZ a x.id = z := ⟨_, rfl⟩
          have HZZ := Lib.hid hzz
          rw [hzz] at HCA
          clear hzz
          go_wp2_with fail
          refine HCA.out.mono ?_
          rintro e w5 ⟨rfl, m5⟩
          clear d0 d1 d2 d3 d4 d5 d6
          have hB5 := HB4.out.modp m5
          have own5 := own_pure HOW4.out m5
          have hm5 := HM4.out.trans m5
          have hbs5 : w.heap.size ≤ w5.heap.size := by have := m5.size; omega
          clear HCA HB4 HOW4 HM4 m5 hbs4
          have d0 := hB5.cell 0; have d1 := hB5.cell 1; have d2 := hB5.cell 2; have d3 := hB5.cell 3; have d4 := hB5.cell 4; have d5 := hB5.cell 5; have d6 := hB5.cell 6; simp at d0 d1 d2 d3 d4 d5 d6
          clear hB5
          cases hpl : plc a x.id with
          | none =>
            have hz : z = -1 := by rw [← HZZ.out]; unfold plcZ; rw [hpl]
            subst hz
            have HE : Hid (dfU2 a b (k + 1) = out ++ [⟨x.id, 1⟩]) := Lib.hid (by rw [HST.out, if_pos (atS_noplc hpl)])
            clear hpl HST HZZ
            go_wp2_with (at_builtin; refine wpList_append_lies _ rfl _ _ _ rfl w.heap.size 68 i0 _ 2 24 Tryz.underlying63 hi0 hz0 hz1 hz2 rfl (by omega) (.slice Ao out.length cap) out.length (chgV out) rfl (own5.alloc _) ⟨w5.heap.size, 0, none⟩ 1 1 [.string ⟨x.id.toArray⟩, .int .i64 1] rfl rfl (World.news_of_block (cs := #[.string ⟨x.id.toArray⟩, .int .i64 1]) (t := 68) (fr := (0, 0)) (heap_alloc_new w5 _)) (by simp [Value.oneCell']) (by omega) (by simp [maxLen]; omega) (by omega) (by have := hm5.size; simp; omega) (w5.heap.size + 1) (by simp) ?_; intro g5 cap5 w5 hown5 hgrow hat hlt5)
            go_roundg (b.length - (k + 1))
            case measure => omega
            case rel =>
              refine ⟨k + 1, out ++ [⟨x.id, 1⟩], some ⟨g5, 0, none⟩, cap5, by omega, by omega, by simp, by simp, HE.out, by simp; omega, ?_, (hm5.alloc _).grown hgrow (fun j hj => .inr (by have := own_block own5 j hj; omega)), by have := hgrow.size; simp at this; omega⟩
              rw [chg_snoc]
              simpa using hown5
          | some j =>
            obtain ⟨hj, haj⟩ := atS_plc hpl
            have hz : z = (j : Int) := by rw [← HZZ.out]; unfold plcZ; rw [hpl]
            subst hz
            have hk0 : ¬ ((j : Int) < 0) := by omega
            have HE : Hid (dfU2 a b (k + 1) = out) := Lib.hid (by rw [HST.out, if_neg (by rw [haj]; simp)])
            clear hpl HST HZZ haj hj
            go_wp2_with fail
            go_roundg (b.length - (k + 1))
            case measure => omega
            case rel => exact ⟨k + 1, out, Ao, cap, rfl, by omega, by simp, by simp, HE.out, by omega, own5, hm5, by omega⟩
        · obtain rfl : k = b.length := by omega
          rw [dfU_all] at hout
          subst hout
          have HSO := Lib.hid (sortChg_calls wr w.heap.size (difU a b).length (.slice Ao (difU a b).length cap) (difU a b) 83 hown HND.out (by omega) (enters_of Tryz.func83 (by kernel_rfl) rfl) (fun x y W => chgC1_calls x y W))
          have HOB := Lib.hid (own_block hown)
          have HM := Lib.hid hm
          clear hown hm HPA HND HRA HRB
          go_wp2_with fail
          refine HSO.out.mono ?_
          rintro e w3 ⟨ys, hp, hup, rfl, hown3, hm3⟩
          have HE : Hid (ys = difL a b) := Lib.hid (difL_unique ys (fun c => hp.mem_iff) hup)
          have HO3 := Lib.hid (Sl.of_own hown3)
          have HM3 := Lib.hid (HM.out.trans' hm3 (fun i hi hl => by have := HOB.out i hi; omega))
          clear HSO HOB HM hp hup hown3 hm3
          go_wp2_with fail
          go_ret
          exact ⟨Ao, _, cap, rfl, by rw [← HE.out]; exact HO3.out, HM3.out⟩

end Go.Proofs.YtbdeicbdehgeiaaGreatDoor

/- The law ItemDiffers. -/
namespace Go.Proofs.YtbdeicbdehgeiaaGreatDoor
set_option linter.unusedVariables false
set_option linter.unusedSimpArgs false
open Go.RowKit Go.Sort

def LdRel (w2 : World) (b base n N0 : Nat) (A : Option Addr) (c gk : Nat) (i : Value) (wr : World) : Prop :=
  ∃ (k : Nat) (ys : List Itm), n - k = gk ∧ k ≤ n ∧ i = .int .i64 (k : Int) ∧ ys.length = n ∧ (∀ x ∈ ys, ItB x) ∧ (∀ j (h : j < ys.length), k ≤ j → ItG ys[j]) ∧
    wr.ownsRow base 59 7 (.slice A n c) n (itV ys) ∧ Strm wr b (N0 + 2 * k) ∧ Mod (· = b) w2 wr
def LdCut (w2 : World) (b N : Nat) (x : Value) (wx : World) : Prop := ∃ ys : List Itm, Its wx x ys ∧ (∀ y ∈ ys, ItB y) ∧ ys.length ≤ 20 ∧ Strm wx b N ∧ Mod (· = b) w2 wx
def LdTwo (w2 : World) (b : Nat) (x y : Value) (wx : World) : Prop := ∃ l m : List Itm, Its wx x l ∧ Its wx y m ∧ (∀ y ∈ l, ItB y) ∧ (∀ y ∈ m, ItB y) ∧ l.length ≤ 20 ∧ m.length ≤ 20 ∧ Mod (· = b) w2 wx
theorem set_B {xs : List Itm} {k : Nat} {y : Itm} (h : ∀ x ∈ xs, ItB x) (hy : ItB y) : ∀ x ∈ xs.set k y, ItB x := fun x hx => by
  rcases List.mem_or_eq_of_mem_set hx with hx | rfl
  · exact h x hx
  · exact hy
theorem set_G {xs : List Itm} {k : Nat} {y : Itm} (h : ∀ j (h : j < xs.length), k ≤ j → ItG xs[j]) : ∀ j (h : j < (xs.set k y).length), k + 1 ≤ j → ItG (xs.set k y)[j] := fun j hj hk => by
  rw [List.getElem_set_ne (by omega)]
  exact h j (by simpa using hj) (by omega)

set_option maxRecDepth 100000 in
set_option maxHeartbeats 16000000 in
theorem ItemDiffers_calls (w : World) (A : Option Addr) (n c : Nat) (hA : ArgInts w A n) (hE : ErrS w) (hD : Deb w) (hV : Env w) :
    Calls Tryz.prog 5 #[.slice A n c] w (BoolPost w true) := by
  have hS0 := strm_new (c := c) hA
  have HE : Hid (∀ w1, Pure w w1 → ErrS w1) := Lib.hid (fun _ h => hE.pure h)
  have HD : Hid (∀ w1, Pure w w1 → Deb w1) := Lib.hid (fun _ h => hD.pure h)
  have HV : Hid (∀ w1, Pure w w1 → Env w1) := Lib.hid (fun _ h => hV.pure h)
  obtain ⟨b, hb⟩ : ∃ b, b = w.heap.size := ⟨_, rfl⟩
  have P0 := pure_alloc w (.cells #[.slice A n c, .int .i64 0] 25)
  have HPS : Hid (∀ {w1 w' : World}, Pure w w1 → Mod (· = b) w1 w' → Pure w w') := Lib.hid (fun k h => k.trans' h (fun i hi hlt => by omega))
  rw [← hb] at hS0
  clear hE hD hV hA
  go_enter Tryz.func5, Tryz.ntmps5
  go_wp2_with fail
  rw [← hb]
  generalize (w.alloc (.cells #[.slice A n c, .int .i64 0] 25)) = w0 at *
  clear hb
  refine (rangeI_calls _ _ _ _ hS0 (by omega) (by omega) (by omega)).mono ?_
  rintro e w1 ⟨m, mI, hmI, hm8, rfl, hS1, hM1⟩
  have P1 := HPS.out P0 hM1
  subst hmI
  have HIT := Lib.hid (rightItems_callsG w1 b _ m hS1 (by omega) (by omega) (fun W h => HV.out W (HPS.out P1 h)))
  have hm20 : m ≤ 10 := by omega
  clear hS0 P0 hM1 hm8 hS1
  go_wp2_with fail
  refine HIT.out.mono ?_
  rintro e w2 ⟨v, xs, rfl, hxl, hxz, hown, hS2, hM2⟩
  have P2 := Lib.hid (HPS.out P1 hM2)
  have HCL := Lib.hid (clnI_calls w2 w1.heap.size v xs hown (by omega))
  have hv : Its w2 v xs := Sl.of_own hown
  have hx10 : xs.length ≤ 10 := by omega
  have HXZ := Lib.hid hxz
  clear HIT hxz hown P1 hM2 hxl
  go_wp2_with fail
  refine HCL.out.mono ?_
  rintro e w3 ⟨v3, rfl, hown3, m3⟩
  have P3 := Lib.hid (P2.out.trans m3)
  have hv3 := hv.pure m3
  have hS3 := hS2.pure m3
  have hw23 := m3.size
  have hb2 := hS2.lt
  obtain ⟨A3, n3, c3, rfl, _, _, hl3, _⟩ := Sl.of_own hown3
  have hn3 : xs.length = n3 := by rw [itV_len] at hl3; omega
  subst hn3
  obtain ⟨A1, n1, c1, rfl⟩ := hv3.form
  obtain ⟨base, hbase⟩ : ∃ base, base = w2.heap.size := ⟨_, rfl⟩
  rw [← hbase] at hown3
  have hbs := Nat.le_of_eq hbase
  have hbs2 := Nat.le_of_eq hbase.symm
  have HVA : Hid (∀ W, Mod (· = b) w2 W → Its W (.slice A1 n1 c1) xs) := Lib.hid (fun W h => hv.strm hS2 h (by decide))
  have HM3 := Lib.hid (Mod.of_pure (S := (· = b)) m3)
  have HO3 := Lib.hid hown3
  have HS3 := Lib.hid hS3
  have HXB : Hid (∀ x ∈ xs, ItB x) := Lib.hid (fun x hx => (HXZ.out x hx).b)
  clear HCL hv hv3 hown3 hS3 hS2 m3 P3 hbase
  go_wp2_with fail
  go_loopg [21] xs.length (fun gk i wr => LdRel w2 b base xs.length 3000 A3 c3 gk i wr)
  case atStart => exact ⟨0, xs, by omega, by omega, rfl, rfl, HXB.out, fun j h _ => HXZ.out _ (List.getElem_mem h), HO3.out, HS3.out.more (by omega), HM3.out⟩
  case round =>
    clear HO3 HS3 HM3
    obtain ⟨k, ys, rfl, hk, rfl, hyl, hyb, hyg, hown, hS, hmm⟩ := hrel
    by_cases hlt : k < xs.length
    · obtain ⟨g, cap, hg1, hg2, hg3, hg4, hg5⟩ := own_form7 hown (by omega)
      injection hg1 with hA3 hn hc
      subst hA3 hc
      have hown' : OwnI wr base g xs.length c3 ys := hown
      have hky : k < ys.length := by omega
      have HYB := Lib.hid hyb
      have HYG := Lib.hid hyg
      clear hown hyb hyg hn
      go_wp2_with fail
      refine (next_calls _ b _ _ hS (by omega) (by omega) (by omega)).mono ?_
      rintro e w4 ⟨q, hq0, hq1, rfl, hS4, hM4⟩
      have own4 := hown'.mod hM4 (by omega)
      have m4 := hmm.trans hM4
      clear hS hown' hmm hM4
      have j1 : (0 : Int) ≤ (k : Int) := by omega
      have j2 : (k : Int) < (xs.length : Int) := by omega
      have HCE := Lib.hid (own4.cells hky)
      have HFZ := Lib.hid own4.frozen
      have HYK := Lib.hid (HYG.out k hky (by omega))
      have HSB := Lib.hid (fun (y : Itm) (h : ItB y) => set_B (k := k) HYB.out h)
      have HSG := Lib.hid (fun (y : Itm) => set_G (k := k) (y := y) HYG.out)
      have HSF := Lib.hid (fun (W : World) (h : OwnI W base g xs.length c3 ys) (d : Nat) (hd : d < 7) (u : Value) (x' : Itm) hx => h.setFld hky d hd u x' hx)
      have HSL : Hid (∀ y : Itm, (ys.set k y).length = xs.length) := Lib.hid (fun y => by simpa using hyl)
      have HOW := Lib.hid own4
      have HM4 := Lib.hid m4
      have HSS := Lib.hid hS4
      have hbg : b < g := by omega
      have hgw : w2.heap.size ≤ g := by omega
      by_cases h0 : q = 0
      · subst h0
        have c6 := HCE.out.2.2.2.2.2.2
        have c7 := HFZ.out (k * 7 + 6)
        clear own4 hq0 hq1 HCE HFZ HYB HYG
        have HFF := Lib.hid (HSF.out w4 HOW.out 6 (by omega))
        have HST := Lib.hid (fun u => (hS4.setR (j := k * 7 + 6) hbg u).more (M := 3000 + 2 * (k + 1)) (by omega))
        have HMT := Lib.hid (fun u => m4.setR hgw (k * 7 + 6) u)
        have hln := HYK.out.2.2.2.2
        clear m4 hS4
        generalize ys[k] = yk at *
        go_wp2_with fail
        go_roundg (xs.length - (k + 1))
        case measure => omega
        case rel =>
          refine ⟨k + 1, ys.set k { yk with text := yk.text ++ [109, 111, 114, 101, 10] }, rfl, by omega, by simp, HSL.out _, HSB.out _ ?_, HSG.out _, HFF.out _ _ ?_, HST.out _, HMT.out _⟩
          · obtain ⟨z1, z2, z3, z4, z5⟩ := HYK.out
            exact ⟨z1, z2, z3, z4, by simp; omega⟩
          · simp only [itC, List.set_cons_succ, List.set_cons_zero, List.cons.injEq, Value.string.injEq, and_true, true_and]
            apply ByteArray.ext
            simp [ByteArray.data_append]
      · by_cases h1 : q = 1
        · subst h1
          have hbw4 := hS4.lt
          clear h0 hq0 hq1 HCE HFZ HYB HYG HSS
          go_wp2_with fail
          refine (pick_calls _ b _ _ _ [0, 10, 5000] (hS4.alloc _) (by omega) (Blk.new _ _ _) (by omega) (by simp) (by simp)).mono ?_
          rintro e w5 ⟨z, hz, rfl, hS5, hM5⟩
          have own5 := (OwnI.mod own4 (pure_alloc _ _) id).mod hM5 (by omega)
          have c7 := own5.frozen (k * 7 + 4)
          have c8 := (own5.cells hky).2.2.2.2.1
          have m5 := (m4.transp (pure_alloc _ _)).trans hM5
          have HFF := Lib.hid (HSF.out w5 own5 4 (by omega))
          have HST := Lib.hid (fun u => (hS5.setR (j := k * 7 + 4) hbg u).more (M := 3000 + 2 * (k + 1)) (by omega))
          have HMT := Lib.hid (fun u => m5.setR hgw (k * 7 + 4) u)
          clear hM5 hS5 hS4 m4 m5 own4 own5 HOW HSF HM4 hz
          generalize ys[k] = yk at *
          go_wp2_with fail
          go_roundg (xs.length - (k + 1))
          case measure => omega
          case rel =>
            refine ⟨k + 1, ys.set k { yk with tm := z }, rfl, by omega, by simp, HSL.out _, HSB.out _ ?_, HSG.out _, HFF.out _ _ ?_, HST.out _, HMT.out _⟩
            · obtain ⟨z1, z2, z3, z4, z5⟩ := HYK.out
              exact ⟨z1, z2, z3, z4, by simp; omega⟩
            · simp [itC]
        · have hq2 : (q == 0) = false := by simpa using h0
          have hq3 : (q == 1) = false := by simpa using h1
          clear own4 m4 hS4 h0 h1 hq0 hq1 HCE HFZ HSB HSG HSF HSL HYK
          go_wp2_with fail
          go_roundg (xs.length - (k + 1))
          case measure => omega
          case rel => exact ⟨k + 1, ys, rfl, by omega, by simp, hyl, HYB.out, fun j h hj => HYG.out j h (by omega), HOW.out, HSS.out.more (by omega), HM4.out⟩
    · obtain rfl : k = xs.length := by omega
      have HOV : Hid (∀ W, Mod (· = b) wr W → Its W (.slice A3 xs.length c3) ys) := Lib.hid (fun W h => (Sl.of_own hown : Its wr _ ys).strm hS h (by decide))
      have HYB := Lib.hid hyb
      have HMM := Lib.hid hmm
      clear hyg hown hyb hmm HXZ
      go_wp2_with fail
      refine (flip_calls _ b _ _ hS (by omega) (by omega) (by omega)).mono ?_
      rintro e w4 ⟨fl, rfl, hS4, hM4⟩
      have HVA4 := Lib.hid (HOV.out _ hM4)
      have HM4 := Lib.hid (HMM.out.trans hM4)
      have HS4 := Lib.hid hS4
      clear hM4 hS HMM HOV
      go_upto_if 47 with (fail)
      go_cut [5] (fun x wx => LdCut w2 b 7000 x wx)
      case first =>
        cases fl
        · go_wp2_with fail
          go_meet
          exact ⟨ys, HVA4.out, HYB.out, by omega, HS4.out.more (by omega), HM4.out⟩
        clear HVA4 HYB HVA
        go_wp2_with fail
        refine (rangeI_calls _ b _ _ hS4 (by omega) (by omega) (by omega)).mono ?_
        rintro e w5 ⟨m2, mI, hmI, hm8, rfl, hS5, hM5⟩
        have M5 := HM4.out.trans hM5
        have HIT := Lib.hid (items_callsG w5 b _ m2 mI hmI hS5 (by omega) (by omega) (fun W h => HV.out W (HPS.out P2.out (M5.trans h))))
        have hm2b : m2 ≤ 10 := by omega
        clear hS4 hmI hm8
        go_wp2_with fail
        refine HIT.out.mono ?_
        rintro e w6 ⟨v6, zs, rfl, hzl, hzz, hown, hS6, hM6⟩
        have M6 := Lib.hid (M5.trans hM6)
        have HV6 := Lib.hid (Sl.of_own hown : Its w6 v6 zs)
        have HZ6 : Hid (∀ z ∈ zs, ItB z) := Lib.hid (fun z h => (hzz z h).b)
        have HS6 := Lib.hid hS6
        clear HIT hown hzz M5 hM5 hM6 hS5 hS6 HM4 HS4
        go_wp2_with fail
        go_meet
        exact ⟨zs, HV6.out, HZ6.out, by omega, HS6.out.more (by omega), M6.out⟩
      case rest =>
        clear HVA4 HM4 HS4 HYB hyl hS4
        obtain ⟨zs, hzv, hzb, hzl, hS5, hM5⟩ := hcut
        have HZB := Lib.hid hzb
        have HXV := Lib.hid (HVA.out _ hM5)
        obtain ⟨A5, n5, c5, rfl⟩ := hzv.form
        go_wp2_with fail
        refine (flip_calls _ b _ _ hS5 (by omega) (by omega) (by omega)).mono ?_
        rintro e w6 ⟨fl2, rfl, hS6, hM6⟩
        have HZV6 := Lib.hid (hzv.strm hS5 hM6 (by decide))
        have HM6 := Lib.hid (hM5.trans hM6)
        have HXV6 := Lib.hid (HVA.out _ HM6.out)
        clear hzv hzb hS5 hM5 hM6 HXV hS6 HVA
        go_upto_if 53 with (fail)
        go_cut [4, 5] (fun x y wx => LdTwo w2 b x y wx)
        case first =>
          cases fl2
          · go_wp2_with fail
            go_meet
            exact ⟨xs, zs, HXV6.out, HZV6.out, HXB.out, HZB.out, by omega, by omega, HM6.out⟩
          · go_wp2_with fail
            go_meet
            exact ⟨zs, xs, HZV6.out, HXV6.out, HZB.out, HXB.out, by omega, by omega, HM6.out⟩
        case rest =>
          clear HXV6 HZV6 HXB HZB HM6 hzl hx10 hlt
          obtain ⟨l, m, hvl, hvm, hzl, hzm, hll, hlm, hM⟩ := hcut
          have P6 := Lib.hid (HPS.out P2.out hM)
          have HDF := Lib.hid (idiffer_calls _ _ _ l m hvl hvm hzl hzm (by omega) (by omega) (HV.out _ P6.out))
          have HIA := Lib.hid (fun W h => itemsFault_calls W _ l (hvl.pure h) hzl (by omega) (HV.out W (P6.out.trans h)))
          have HIB := Lib.hid (fun W h => itemsFault_calls W _ m (hvm.pure h) hzm (by omega) (HV.out W (P6.out.trans h)))
          have HFO := Lib.hid (fun (ha : itsE itemE l = 0) (hb : itsE itemE m = 0) W h => differOf_calls W _ _ l m (hvl.pure h) (hvm.pure h) (right_of (E := itemE) (fun x hx => itemE_ne' hx) ha).distinct (right_of (E := itemE) (fun x hx => itemE_ne' hx) hb).distinct (by omega) (by omega))
          have HDE : Hid (difE l m = if itsE itemE l ≠ 0 then itsE itemE l else itsE itemE m) := Lib.hid rfl
          have HT : Hid (∀ W, Pure w W → _) := Lib.hid (fun W hW => taken_calls W (HE.out _ hW) (HD.out _ hW))
          unfold DfPost at HDF
          obtain ⟨A6, n6, c6, rfl⟩ := hvl.form
          obtain ⟨A7, n7, c7, rfl⟩ := hvm.form
          generalize difE l m = de at *
          obtain ⟨fa, hfa⟩ : ∃ fa, itsE itemE l = fa := ⟨_, rfl⟩
          obtain ⟨fb, hfb⟩ : ∃ fb, itsE itemE m = fb := ⟨_, rfl⟩
          rw [hfa] at HIA HDE HFO
          rw [hfb] at HIB HDE HFO
          clear hvl hvm hzl hzm hM hfa hfb HE HD HV HPS P2 hll hlm
          go_wp2_with fail
          refine HDF.out.mono ?_
          rintro e w7 ⟨A8, n8, c8, rfl, h8n, h80, m7⟩
          have H8N := Lib.hid h8n
          have H80 := Lib.hid h80
          have HI7 := Lib.hid (HIA.out w7 m7)
          clear HDF h8n h80 HIA
          go_wp2_with fail
          refine HI7.out.mono ?_
          rintro e w8 ⟨rfl, m8⟩
          have M8 := m7.trans m8
          have HI8 := Lib.hid (HIB.out w8 M8)
          clear HI7 HIB
          go_wp2_with fail
          refine HI8.out.mono ?_
          rintro e w9 ⟨rfl, m9⟩
          have M79 := m8.trans m9
          have M9 := M8.trans m9
          clear HI8 m7 m8 m9 M8
          go_wp2_with fail
          refine (wrongOr_calls _ _ _ [fa, fb] (Blk.new _ _ _).row0 (by simp)).mono ?_
          rintro e w10 ⟨rfl, m10⟩
          rw [firstErrP, ← HDE.out]
          have M7 := Lib.hid (M79.trans ((pure_alloc _ _).trans m10))
          have M10 := Lib.hid (M9.trans ((pure_alloc _ _).trans m10))
          clear M79 M9 m10
          by_cases h0 : de = 0
          · subst h0
            have h0a : fa = 0 := Classical.byContradiction fun h => by have := HDE.out; rw [if_pos h] at this; exact h this.symm
            have h0b : fb = 0 := by have := HDE.out; rw [if_neg (by rw [h0a]; simp)] at this; exact this.symm
            have HCS := Lib.hid ((H80.out rfl).pure M7.out)
            have HO := Lib.hid (HFO.out h0a h0b w10 M10.out)
            have P10 := Lib.hid (P6.out.trans M10.out)
            clear H8N H80 HFO HDE M7 M10 P6 h0a h0b
            go_wp2_with fail
            refine HO.out.mono ?_
            rintro e w11 ⟨A9, n9, c9, rfl, hgs, m11⟩
            have HEQ := Lib.hid (equalChg_calls w11 _ _ _ (HCS.out.pure m11) hgs)
            have P11 := Lib.hid (P10.out.trans m11)
            clear HO HCS hgs P10 m11
            go_wp2_with fail
            refine HEQ.out.mono ?_
            rintro e w12 ⟨rfl, m12⟩
            have P12 := P11.out.trans m12
            clear HEQ P11
            go_wp2_with fail
            refine (HT.out _ P12).mono ?_
            rintro e w13 ⟨rfl, m13⟩
            go_wp2_with fail
            go_ret
            exact ⟨rfl, P12.trans m13⟩
          · have h0' : (de != 0) = true := by simpa using h0
            obtain ⟨rfl, rfl, rfl⟩ := H8N.out h0
            have hff : (de == de) = true := by simp
            have P10 := P6.out.trans M10.out
            clear H8N H80 HFO HDE M7 M10 P6 h0
            go_wp2_with fail
            refine (HT.out _ P10).mono ?_
            rintro e w13 ⟨rfl, m13⟩
            go_wp2_with fail
            go_ret
            exact ⟨rfl, P10.trans m13⟩

end Go.Proofs.YtbdeicbdehgeiaaGreatDoor
