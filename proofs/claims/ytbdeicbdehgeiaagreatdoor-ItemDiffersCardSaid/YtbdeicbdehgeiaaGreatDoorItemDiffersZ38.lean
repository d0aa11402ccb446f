/- Texts of the proof of ItemDiffers, put together: KsI. -/
import Derived.Test.YtbdeicbdehgeiaaGreatDoorItemDiffersZ10
import Derived.Test.YtbdeicbdehgeiaaGreatDoorItemDiffersZ16
import Derived.Test.YtbdeicbdehgeiaaGreatDoorItemDiffersZ21
import Derived.Test.YtbdeicbdehgeiaaGreatDoorItemDiffersZ26
import Derived.Shelf.SlicesQ.Equal
import Derived.Shelf.Small.Strs
import Derived.Shelf.Small.Bits
import Derived.Laws.StructEq
/- Rows of items: ==, slices.Equal, slices.SortFunc. -/
namespace Go.Proofs.YtbdeicbdehgeiaaGreatDoor
set_option linter.unusedVariables false
set_option linter.unusedSimpArgs false
open Go.RowKit Go.Sort Go.Shelf
attribute [local go_sem ↓] Go.wp_at_zero Go.wp_at_succ

instance : Inhabited Itm := ⟨⟨[], [], 0, [], 0, [], []⟩⟩

theorem eqTypeItm : Tryz.prog.stoodInHeld 59 = false := by kernel_rfl
theorem eqGuardTItm : Tryz.prog.eqGuardType Tryz.prog.depth 59 = false := by kernel_rfl
theorem eqStructItm : Tryz.prog.underlying 59 = some (.struct (Tryz.prog.fieldsOf 59)) := by kernel_rfl
set_option maxRecDepth 100000 in
set_option maxHeartbeats 2000000 in
theorem eqInItm (x y : Itm) (w : World) : Sem.run Tryz.prog (Op.equalIn 10000 59 (itA x) (itA y)) w = .ok (itEq x y) w := by
  have us := Tryz.underlying9
  have ag := Tryz.isAgg9
  have zs := Tryz.sizeOf9
  have ui := Tryz.underlying3
  have ai := Tryz.isAgg3
  have zi := Tryz.sizeOf3
  have hS := eqStructItm
  unfold itA itEq
  rw [show (10000 : Nat) = 9999 + 1 from rfl, run_equalIn_agg w 9999 59 _ _ hS eqTypeItm]
  simp only [Program.fieldsOf, Tryz.underlying59]
  clear hS
  go_simp
  (repeat' split) <;> simp_all
theorem eqlItm (x y : Itm) (w : World) : Sem.run Tryz.prog (binOp .eql 59 (itA x) (itA y)) w = .ok (.bool (itEq x y)) w := by
  have h := eqInItm x y w
  unfold itA at h ⊢
  rw [run_eql_struct, h]
  rfl
theorem neqItm (x y : Itm) (w : World) : Sem.run Tryz.prog (binOp .neq 59 (itA x) (itA y)) w = .ok (.bool (!itEq x y)) w := by
  have h := eqInItm x y w
  unfold itA at h ⊢
  rw [run_neq_struct, h]
  rfl
theorem guardItm (op : BinOp) (a b : Operand) (x y : Itm) (w : World) : Sem.run Tryz.prog (eqGuard op 59 a b (itA x) (itA y)) w = .ok () w :=
  run_eqGuard_agg w op 59 a b _ _ eqGuardTItm
theorem neqAtItm : NeqAt Tryz.prog 59 (fun x => .agg (itC x).toArray) itEq := ⟨neqItm, guardItm⟩


set_option maxRecDepth 100000 in
set_option maxHeartbeats 2000000 in
theorem equal0Itm_calls (w : World) (A1 A2 : Option Addr) (c1 c2 : Nat) : Calls Tryz.prog 35 #[.slice A1 0 c1, .slice A2 0 c2] w (BoolPost w true) := by
  go_enter Tryz.func35, Tryz.ntmps35
  go_wp2_with fail
  refine wp_loop_rounds 1 ?_
  rw [rounds_succ]
  go_wp2_with fail
  go_ret
  exact BoolPost.of rfl (Mod.refl _ _)
set_option maxHeartbeats 1000000 in
theorem equalItm_calls (w : World) (v1 v2 : Value) (xs : List Itm) (h1 : Sl w 59 7 v1 (itV xs)) (h2 : Sl w 59 7 v2 (itV xs)) : Calls Tryz.prog 35 #[v1, v2] w (BoolPost w true) := by
  obtain ⟨A1, n1, c1, rfl, a1, a2, a3, a4⟩ := h1
  obtain ⟨A2, n2, c2, rfl, b1, b2, b3, b4⟩ := h2
  rw [itV_len] at a3 b3
  obtain rfl : n1 = xs.length := by omega
  obtain rfl : n2 = xs.length := by omega
  by_cases h0 : xs.length = 0
  · rw [h0]
    exact equal0Itm_calls w A1 A2 c1 c2
  obtain ⟨g1, o1, rfl, r1⟩ := a4 (by omega)
  obtain ⟨g2, o2, rfl, r2⟩ := b4 (by omega)
  have hk : ∀ x, (itC x).length = 7 := fun _ => rfl
  have hr : ∀ {g o : Nat}, RowAt w 59 g o (itV xs) → ∀ j, j < xs.length → ∀ i v, (itC xs[j]!)[i]? = some v → w.cell? ⟨g, o + j * 7 + i, none⟩ = some v := fun {g o} r j hj i v hv => by
    have hi : i < 7 := by
      rw [← hk xs[j]!]
      exact (List.getElem?_eq_some_iff.1 hv).1
    have h := r.cell (i := j * 7 + i) (u := v) (by
      show (xs.flatMap itC)[j * 7 + i]? = some v
      rw [flatK_at hk (by omega) xs (j * 7 + i) (by omega), show (j * 7 + i) / 7 = j by omega, show (j * 7 + i) % 7 = i by omega]
      obtain ⟨h3, h4⟩ := List.getElem?_eq_some_iff.1 hv
      rw [getElem!_pos _ i h3, h4])
    rw [Nat.add_assoc]
    exact h
  refine (AnyQ.slices_Equal Tryz.eqItm 7 Tryz.isAgg59 Tryz.sizeOf59 itC hk itEq neqAtItm g1 o1 xs.length c1 g2 o2 xs.length c2 xs xs w (Nat.le_refl _) (Nat.le_refl _) (by omega) (by omega) (hr r1) (hr r2)).mono ?_
  rintro e w' ⟨rfl, q, rfl⟩
  rw [Lib.allEq_all itEq _ _ rfl (fun j _ => itEq_refl _)]
  exact BoolPost.of rfl ((Mod.refl _ _).drewN q)


set_option maxRecDepth 100000 in
set_option maxHeartbeats 2000000 in
theorem insert0Itm_calls (w : World) (A : Option Addr) (cap : Nat) (fv : Value) : Calls Tryz.prog 223 #[.slice A 0 cap, .int .i64 0, .int .i64 0, fv] w (NonePost w) := by
  go_enter Tryz.func223, Tryz.ntmps223
  go_wp2_with fail
  refine wp_loop_rounds 1 ?_
  rw [rounds_succ]
  go_wp2_with fail
  go_end0
  exact ⟨rfl, Mod.refl _ _⟩
set_option maxRecDepth 100000 in
set_option maxHeartbeats 2000000 in
theorem pdq0Itm_calls (w : World) (A : Option Addr) (cap : Nat) (fv vl : Value) : Calls Tryz.prog 192 #[.slice A 0 cap, .int .i64 0, .int .i64 0, vl, fv] w (NonePost w) := by
  have H := Lib.hid (insert0Itm_calls w A cap fv)
  go_enter Tryz.func192, Tryz.ntmps192
  go_wp2_with fail
  refine wp_loop_rounds 1 ?_
  rw [rounds_succ]
  go_wp2_with fail
  refine H.out.mono ?_
  rintro e w1 ⟨rfl, hm⟩
  go_wp2_with fail
  go_end0
  exact ⟨rfl, hm⟩
set_option maxRecDepth 100000 in
set_option maxHeartbeats 2000000 in
theorem sort0Itm_calls (w : World) (A : Option Addr) (cap : Nat) (fv : Value) : Calls Tryz.prog 134 #[.slice A 0 cap, fv] w (NonePost w) := by
  have HL : Hid (Calls Tryz.prog 96 #[.int .u64 0] w fun e w' => (∃ x : Int, e = .returned (.int .i64 x)) ∧ w' = w) := Lib.hid ((Any.bits_Len Tryz.bitsLenK 0 w (by omega) (by omega)).mono fun _ _ ⟨h, k⟩ => ⟨⟨_, h⟩, k⟩)
  have H := Lib.hid (fun (vl : Value) (W : World) => pdq0Itm_calls W A cap fv vl)
  go_enter Tryz.func134, Tryz.ntmps134
  go_wp2_with fail
  refine HL.out.mono ?_
  rintro e w1 ⟨⟨v, rfl⟩, rfl⟩
  go_wp2_with fail
  refine (H.out _ _).mono ?_
  rintro e w2 ⟨rfl, hm2⟩
  go_wp2_with fail
  go_end0
  exact ⟨rfl, hm2⟩
def SrtItmPost (w : World) (base : Nat) (v : Value) (n : Nat) (xs : List Itm) (e : Ending) (w' : World) : Prop :=
  ∃ ys : List Itm, ys.Perm xs ∧ (ys.Pairwise fun a b => a.id < b.id) ∧ e = .returned (.tuple #[]) ∧ w'.ownsRow base 59 7 v n (itV ys) ∧ Mod (fun k => v.ownBlock = some k) w w'
set_option maxHeartbeats 1000000 in
theorem sortItm_calls (w : World) (base n : Nat) (v : Value) (xs : List Itm) (F : Nat) (hown : w.ownsRow base 59 7 v n (itV xs)) (hd : (xs.map fun z => z.id).Nodup) (h12 : xs.length ≤ 1000000)
    (eg : ∀ args w, Sem.run Tryz.prog (callFunc F args) w = .ok (.enter F args) w) (hF : ∀ (x y : Itm) (W : World), Calls Tryz.prog F #[.agg (itC x).toArray, .agg (itC y).toArray] W (GrowPost W (cfBy (fun z : Itm => z.id) x y))) :
    Calls Tryz.prog 134 #[v, .func (.func F) #[] #[]] w (SrtItmPost w base v n xs) := by
  have hk : ∀ x, (itC x).length = 7 := fun _ => rfl
  have hnx : n = xs.length := own_lenK (enc := itC) (k := 7) (g := 0) (cap := 0) hk (by omega) hown
  rcases hown.2 with ⟨rfl, h0⟩ | ⟨g, cap, cur, rfl, hbase, hb, h1, h2, h3, h4⟩
  · have e : xs = [] := List.eq_nil_of_length_eq_zero (by omega)
    subst e
    refine (sort0Itm_calls w none 0 _).mono ?_
    rintro e w' ⟨rfl, hm⟩
    exact ⟨[], List.Perm.refl _, List.Pairwise.nil, rfl, own_pure hown hm, Mod.of_pure hm⟩
  · subst hnx
    have hH := holdsK_own (enc := itC) (k := 7) hk (by omega) hown
    have hs := AnyQ.slices_SortFunc Tryz.srtItm 7 Tryz.isAgg59 Tryz.sizeOf59 itC hk (fun x v hv => by
      simp only [itC, List.mem_cons, List.not_mem_nil, or_false] at hv
      rcases hv with rfl | rfl | rfl | rfl | rfl | rfl | rfl <;> rfl) (cfBy fun z : Itm => z.id) (swoBy fun z : Itm => z.id) F #[] g 0 cap xs.toArray w eg (fun m os dk hz x y => hF x y _) hH (lt_of_heap hb) (by simp; omega)
    refine (show Calls Tryz.prog 134 #[.slice (some ⟨g, 0, none⟩) xs.length cap, .func (.func F) #[] #[]] w _ from hs).mono ?_
    rintro e w' ⟨rfl, d, m, os, hp, hq, rfl⟩
    obtain ⟨p1, p2⟩ := sortedIn_lt (fun z : Itm => z.id) hp hq hd
    obtain ⟨o1, o2⟩ := own_sortedK (enc := itC) (k := 7) (ys := d.toList) (m := m) (os := os) hk (by omega) hown (by simpa using p1.length_eq)
    rw [Array.toArray_toList] at o1 o2
    exact ⟨d.toList, p1, p2, rfl, o1, o2.mono fun i hi => by subst hi; rfl⟩


end Go.Proofs.YtbdeicbdehgeiaaGreatDoor
