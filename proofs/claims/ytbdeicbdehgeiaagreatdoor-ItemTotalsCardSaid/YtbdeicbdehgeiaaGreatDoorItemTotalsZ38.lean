/- Texts of the proof of ItemTotals, put together: KsT. -/
import Derived.Test.YtbdeicbdehgeiaaGreatDoorItemTotalsZ13
import Derived.Test.YtbdeicbdehgeiaaGreatDoorItemTotalsZ16
import Derived.Test.YtbdeicbdehgeiaaGreatDoorItemTotalsZ17
import Derived.Test.YtbdeicbdehgeiaaGreatDoorItemTotalsZ18
import Derived.Test.YtbdeicbdehgeiaaGreatDoorItemTotalsZ22
import Derived.Shelf.SlicesQ.Equal
import Derived.Shelf.Small.Strs
import Derived.Shelf.Small.Bits
import Derived.Laws.StructEq
/- Rows of totals: ==, slices.Equal, slices.SortFunc. -/
namespace Go.Proofs.YtbdeicbdehgeiaaGreatDoor
set_option linter.unusedVariables false
set_option linter.unusedSimpArgs false
open Go.RowKit Go.Sort Go.Shelf
attribute [local go_sem ↓] Go.wp_at_zero Go.wp_at_succ

def totC (x : Tot) : List Value := [.string ⟨x.cust.toArray⟩, .int .i64 x.items, .int .i64 x.fams, .int .i64 x.bytes]
def totVA (x : Tot) : Value := .agg #[.string ⟨x.cust.toArray⟩, .int .i64 x.items, .int .i64 x.fams, .int .i64 x.bytes]
def totV (xs : List Tot) : List Value := xs.flatMap totC
theorem totV_len (xs : List Tot) : (totV xs).length = xs.length * 4 := flatK_len (enc := totC) (k := 4) (fun _ => rfl) xs
instance : Inhabited Tot := ⟨tot0⟩
def totEq (x y : Tot) : Bool := decide (x.cust = y.cust) && decide (x.items = y.items) && decide (x.fams = y.fams) && decide (x.bytes = y.bytes)
theorem totEq_refl (x : Tot) : totEq x x = true := by simp [totEq]

theorem eqTypeTot : Tryz.prog.stoodInHeld 55 = false := by kernel_rfl
theorem eqGuardTTot : Tryz.prog.eqGuardType Tryz.prog.depth 55 = false := by kernel_rfl
theorem eqStructTot : Tryz.prog.underlying 55 = some (.struct (Tryz.prog.fieldsOf 55)) := by kernel_rfl
set_option maxRecDepth 100000 in
set_option maxHeartbeats 2000000 in
theorem eqInTot (x y : Tot) (w : World) : Sem.run Tryz.prog (Op.equalIn 10000 55 (totVA x) (totVA y)) w = .ok (totEq x y) w := by
  have us := Tryz.underlying9
  have ag := Tryz.isAgg9
  have zs := Tryz.sizeOf9
  have ui := Tryz.underlying3
  have ai := Tryz.isAgg3
  have zi := Tryz.sizeOf3
  have hS := eqStructTot
  unfold totVA totEq
  rw [show (10000 : Nat) = 9999 + 1 from rfl, run_equalIn_agg w 9999 55 _ _ hS eqTypeTot]
  simp only [Program.fieldsOf, Tryz.underlying55]
  clear hS
  go_simp
  (repeat' split) <;> simp_all
theorem eqlTot (x y : Tot) (w : World) : Sem.run Tryz.prog (binOp .eql 55 (totVA x) (totVA y)) w = .ok (.bool (totEq x y)) w := by
  have h := eqInTot x y w
  unfold totVA at h ⊢
  rw [run_eql_struct, h]
  rfl
theorem neqTot (x y : Tot) (w : World) : Sem.run Tryz.prog (binOp .neq 55 (totVA x) (totVA y)) w = .ok (.bool (!totEq x y)) w := by
  have h := eqInTot x y w
  unfold totVA at h ⊢
  rw [run_neq_struct, h]
  rfl
theorem guardTot (op : BinOp) (a b : Operand) (x y : Tot) (w : World) : Sem.run Tryz.prog (eqGuard op 55 a b (totVA x) (totVA y)) w = .ok () w :=
  run_eqGuard_agg w op 55 a b _ _ eqGuardTTot
theorem neqAtTot : NeqAt Tryz.prog 55 (fun x => .agg (totC x).toArray) totEq := ⟨neqTot, guardTot⟩


set_option maxRecDepth 100000 in
set_option maxHeartbeats 2000000 in
theorem equal0Tot_calls (w : World) (A1 A2 : Option Addr) (c1 c2 : Nat) : Calls Tryz.prog 21 #[.slice A1 0 c1, .slice A2 0 c2] w (BoolPost w true) := by
  go_enter Tryz.func21, Tryz.ntmps21
  go_wp2_with fail
  refine wp_loop_rounds 1 ?_
  rw [rounds_succ]
  go_wp2_with fail
  go_ret
  exact BoolPost.of rfl (Mod.refl _ _)
set_option maxHeartbeats 1000000 in
theorem equalTot_calls (w : World) (v1 v2 : Value) (xs : List Tot) (h1 : Sl w 55 4 v1 (totV xs)) (h2 : Sl w 55 4 v2 (totV xs)) : Calls Tryz.prog 21 #[v1, v2] w (BoolPost w true) := by
  obtain ⟨A1, n1, c1, rfl, a1, a2, a3, a4⟩ := h1
  obtain ⟨A2, n2, c2, rfl, b1, b2, b3, b4⟩ := h2
  rw [totV_len] at a3 b3
  obtain rfl : n1 = xs.length := by omega
  obtain rfl : n2 = xs.length := by omega
  by_cases h0 : xs.length = 0
  · rw [h0]
    exact equal0Tot_calls w A1 A2 c1 c2
  obtain ⟨g1, o1, rfl, r1⟩ := a4 (by omega)
  obtain ⟨g2, o2, rfl, r2⟩ := b4 (by omega)
  have hk : ∀ x, (totC x).length = 4 := fun _ => rfl
  have hr : ∀ {g o : Nat}, RowAt w 55 g o (totV xs) → ∀ j, j < xs.length → ∀ i v, (totC xs[j]!)[i]? = some v → w.cell? ⟨g, o + j * 4 + i, none⟩ = some v := fun {g o} r j hj i v hv => by
    have hi : i < 4 := by
      rw [← hk xs[j]!]
      exact (List.getElem?_eq_some_iff.1 hv).1
    have h := r.cell (i := j * 4 + i) (u := v) (by
      show (xs.flatMap totC)[j * 4 + i]? = some v
      rw [flatK_at hk (by omega) xs (j * 4 + i) (by omega), show (j * 4 + i) / 4 = j by omega, show (j * 4 + i) % 4 = i by omega]
      obtain ⟨h3, h4⟩ := List.getElem?_eq_some_iff.1 hv
      rw [getElem!_pos _ i h3, h4])
    rw [Nat.add_assoc]
    exact h
  refine (AnyQ.slices_Equal Tryz.eqTot 4 Tryz.isAgg55 Tryz.sizeOf55 totC hk totEq neqAtTot g1 o1 xs.length c1 g2 o2 xs.length c2 xs xs w (Nat.le_refl _) (Nat.le_refl _) (by omega) (by omega) (hr r1) (hr r2)).mono ?_
  rintro e w' ⟨rfl, q, rfl⟩
  rw [Lib.allEq_all totEq _ _ rfl (fun j _ => totEq_refl _)]
  exact BoolPost.of rfl ((Mod.refl _ _).drewN q)


set_option maxRecDepth 100000 in
set_option maxHeartbeats 2000000 in
theorem insert0Tot_calls (w : World) (A : Option Addr) (cap : Nat) (fv : Value) : Calls Tryz.prog 175 #[.slice A 0 cap, .int .i64 0, .int .i64 0, fv] w (NonePost w) := by
  go_enter Tryz.func175, Tryz.ntmps175
  go_wp2_with fail
  refine wp_loop_rounds 1 ?_
  rw [rounds_succ]
  go_wp2_with fail
  go_end0
  exact ⟨rfl, Mod.refl _ _⟩
set_option maxRecDepth 100000 in
set_option maxHeartbeats 2000000 in
theorem pdq0Tot_calls (w : World) (A : Option Addr) (cap : Nat) (fv vl : Value) : Calls Tryz.prog 129 #[.slice A 0 cap, .int .i64 0, .int .i64 0, vl, fv] w (NonePost w) := by
  have H := Lib.hid (insert0Tot_calls w A cap fv)
  go_enter Tryz.func129, Tryz.ntmps129
  go_wp2_with fail
  refine wp_loop_rounds 1 ?_
  rw [rounds_succ]
  go_wp2_with fail
  refine H.out.mono ?_
  rintro e w1 ⟨rfl, hm⟩
  go_wp2_with fail
  go_end0
  exact ⟨rfl, hm⟩
set_option maxRecDepth 100000 in
set_option maxHeartbeats 2000000 in
theorem sort0Tot_calls (w : World) (A : Option Addr) (cap : Nat) (fv : Value) : Calls Tryz.prog 76 #[.slice A 0 cap, fv] w (NonePost w) := by
  have HL : Hid (Calls Tryz.prog 96 #[.int .u64 0] w fun e w' => (∃ x : Int, e = .returned (.int .i64 x)) ∧ w' = w) := Lib.hid ((Any.bits_Len Tryz.bitsLenK 0 w (by omega) (by omega)).mono fun _ _ ⟨h, k⟩ => ⟨⟨_, h⟩, k⟩)
  have H := Lib.hid (fun (vl : Value) (W : World) => pdq0Tot_calls W A cap fv vl)
  go_enter Tryz.func76, Tryz.ntmps76
  go_wp2_with fail
  refine HL.out.mono ?_
  rintro e w1 ⟨⟨v, rfl⟩, rfl⟩
  go_wp2_with fail
  refine (H.out _ _).mono ?_
  rintro e w2 ⟨rfl, hm2⟩
  go_wp2_with fail
  go_end0
  exact ⟨rfl, hm2⟩
def SrtTotPost (w : World) (base : Nat) (v : Value) (n : Nat) (xs : List Tot) (e : Ending) (w' : World) : Prop :=
  ∃ ys : List Tot, ys.Perm xs ∧ (ys.Pairwise fun a b => a.cust < b.cust) ∧ e = .returned (.tuple #[]) ∧ w'.ownsRow base 55 4 v n (totV ys) ∧ Mod (fun k => v.ownBlock = some k) w w'
set_option maxHeartbeats 1000000 in
theorem sortTot_calls (w : World) (base n : Nat) (v : Value) (xs : List Tot) (F : Nat) (hown : w.ownsRow base 55 4 v n (totV xs)) (hd : (xs.map fun z => z.cust).Nodup) (h12 : xs.length ≤ 1000000)
    (eg : ∀ args w, Sem.run Tryz.prog (callFunc F args) w = .ok (.enter F args) w) (hF : ∀ (x y : Tot) (W : World), Calls Tryz.prog F #[.agg (totC x).toArray, .agg (totC y).toArray] W (GrowPost W (cfBy (fun z : Tot => z.cust) x y))) :
    Calls Tryz.prog 76 #[v, .func (.func F) #[] #[]] w (SrtTotPost w base v n xs) := by
  have hk : ∀ x, (totC x).length = 4 := fun _ => rfl
  have hnx : n = xs.length := own_lenK (enc := totC) (k := 4) (g := 0) (cap := 0) hk (by omega) hown
  rcases hown.2 with ⟨rfl, h0⟩ | ⟨g, cap, cur, rfl, hbase, hb, h1, h2, h3, h4⟩
  · have e : xs = [] := List.eq_nil_of_length_eq_zero (by omega)
    subst e
    refine (sort0Tot_calls w none 0 _).mono ?_
    rintro e w' ⟨rfl, hm⟩
    exact ⟨[], List.Perm.refl _, List.Pairwise.nil, rfl, own_pure hown hm, Mod.of_pure hm⟩
  · subst hnx
    have hH := holdsK_own (enc := totC) (k := 4) hk (by omega) hown
    have hs := AnyQ.slices_SortFunc Tryz.srtTot 4 Tryz.isAgg55 Tryz.sizeOf55 totC hk (fun x v hv => by
      simp only [totC, List.mem_cons, List.not_mem_nil, or_false] at hv
      rcases hv with rfl | rfl | rfl | rfl <;> rfl) (cfBy fun z : Tot => z.cust) (swoBy fun z : Tot => z.cust) F #[] g 0 cap xs.toArray w eg (fun m os dk hz x y => hF x y _) hH (lt_of_heap hb) (by simp; omega)
    refine (show Calls Tryz.prog 76 #[.slice (some ⟨g, 0, none⟩) xs.length cap, .func (.func F) #[] #[]] w _ from hs).mono ?_
    rintro e w' ⟨rfl, d, m, os, hp, hq, rfl⟩
    obtain ⟨p1, p2⟩ := sortedIn_lt (fun z : Tot => z.cust) hp hq hd
    obtain ⟨o1, o2⟩ := own_sortedK (enc := totC) (k := 4) (ys := d.toList) (m := m) (os := os) hk (by omega) hown (by simpa using p1.length_eq)
    rw [Array.toArray_toList] at o1 o2
    exact ⟨d.toList, p1, p2, rfl, o1, o2.mono fun i hi => by subst hi; rfl⟩


end Go.Proofs.YtbdeicbdehgeiaaGreatDoor
