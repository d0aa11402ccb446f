/- Texts of the proof of FilterKeeps, put together: RngI, SrtQ, KsI, KsL, KepA, KepB, FilA, SrtL, FilC, FilB, LawFilterKeeps, LaidI. -/
import Derived.Test.YtofkkenmkflmiaaGreatDoorFilterKeepsZ5
import Derived.Test.YtofkkenmkflmiaaGreatDoorFilterKeepsZ9
import Derived.Test.YtofkkenmkflmiaaGreatDoorFilterKeepsZ10
import Derived.Test.YtofkkenmkflmiaaGreatDoorFilterKeepsZ12
import Derived.Test.YtofkkenmkflmiaaGreatDoorFilterKeepsZ13
import Derived.Test.YtofkkenmkflmiaaGreatDoorFilterKeepsZ15
import Derived.Test.YtofkkenmkflmiaaGreatDoorFilterKeepsZ16
import Derived.Test.YtofkkenmkflmiaaGreatDoorFilterKeepsZ17
import Derived.Test.YtofkkenmkflmiaaGreatDoorFilterKeepsZ23
import Derived.Test.YtofkkenmkflmiaaGreatDoorFilterKeepsZ25
import Derived.Test.YtofkkenmkflmiaaGreatDoorFilterKeepsZ28
import Derived.Test.YtofkkenmkflmiaaGreatDoorFilterKeepsZ29
import Derived.Test.YtofkkenmkflmiaaGreatDoorFilterKeepsZ34
import Derived.Test.YtofkkenmkflmiaaGreatDoorFilterKeepsZ37
import Derived.Test.YtofkkenmkflmiaaGreatDoorFilterKeepsZ38
import Derived.Test.YtofkkenmkflmiaaGreatDoorFilterKeepsZ40
import Derived.Test.YtofkkenmkflmiaaGreatDoorFilterKeepsZ41
import Derived.Test.YtofkkenmkflmiaaGreatDoorFilterKeepsZ42
import Derived.Test.YtofkkenmkflmiaaGreatDoorFilterKeepsZ43
import Derived.Great.Walk
import Derived.Shelf.SlSortCmp.WholeK
import Derived.Sort.OwnSorted
import Derived.Shelf.SlicesQ.Equal
import Derived.Shelf.Small.Strs
import Derived.Shelf.Small.Bits
import Derived.Laws.StructEq
import Derived.Shelf.Sort.Plain
import Derived.Shelf.Slices.In.SortNone
import Derived.Shelf.Slices.CompactS
import Derived.Deep.AppendLies
import Derived.Deep.DeepCutAuto
import Derived.Deep.CutBlock
import Derived.Test.YtofkkenmkflmiaaGreatDoorRows
import Derived.Stop.LaidErr
import Derived.Lib.LaidTab
import Derived.Lib.LaidU8T
import Derived.ProofKit
/- Range of the stream, from 0. -/
namespace Go.Proofs.YtofkkenmkflmiaaGreatDoor
set_option linter.unusedVariables false
set_option linter.unusedSimpArgs false
open Go.RowKit

theorem rangeI_calls (w : World) (b N : Nat) (hi : Int) (hS : Strm w b N) (hN : N ≤ 1000000000) (h1 : 0 ≤ hi) (h2 : hi ≤ 1000) : Calls Tryz.prog 7 #[.pointer (some ⟨b, 0, none⟩), .int .i64 0, .int .i64 hi] w (fun e w' => ∃ (m : Nat) (mI : Int), mI = (m : Int) ∧ mI ≤ hi ∧ e = .returned (.int .i64 mI) ∧ Strm w' b (N + 1) ∧ Mod (· = b) w w') := by
  refine (range_calls w b N 0 hi hS hN h1 (by omega) (by omega)).mono ?_
  rintro e w' ⟨k, h0, h1, rfl, h3, h4⟩
  exact ⟨k.toNat, k, by omega, h1, rfl, h3, h4⟩

end Go.Proofs.YtofkkenmkflmiaaGreatDoor

/- slices.SortFunc over rows of structs: between the shelf's words and mine. -/
namespace Go.Proofs.YtofkkenmkflmiaaGreatDoor
set_option linter.unusedVariables false
set_option linter.unusedSimpArgs false
open Go.RowKit Go.Sort Go.Shelf

section
variable {α : Type} {enc : α → List Value} {k : Nat}
theorem flatK_len (hk : ∀ x, (enc x).length = k) : ∀ xs : List α, (xs.flatMap enc).length = xs.length * k
  | [] => by simp
  | x :: xs => by
    rw [List.flatMap_cons, List.length_append, hk, flatK_len hk xs, List.length_cons, Nat.add_mul]
    omega
variable [Inhabited α]
theorem flatK_at (hk : ∀ x, (enc x).length = k) (h0 : 0 < k) : ∀ (xs : List α) (t : Nat), t < xs.length * k → (xs.flatMap enc)[t]? = some (enc xs[t / k]!)[t % k]!
  | [], t, h => by simp at h
  | x :: xs, t, h => by
    rw [List.flatMap_cons]
    by_cases ht : t < k
    · rw [List.getElem?_append_left (by rw [hk]; exact ht), Nat.div_eq_of_lt ht, Nat.mod_eq_of_lt ht]
      have : t < (enc x).length := by rw [hk]; exact ht
      simp [this]
    · obtain ⟨s, rfl⟩ : ∃ s, t = s + k := ⟨t - k, by omega⟩
      rw [List.getElem?_append_right (by rw [hk]; omega), hk, Nat.add_sub_cancel, Nat.add_div_right _ h0, Nat.add_mod_right]
      have hs : s < xs.length * k := by rw [List.length_cons, Nat.add_mul] at h; omega
      rw [flatK_at hk h0 xs s hs]
      simp
end
end Go.Proofs.YtofkkenmkflmiaaGreatDoor

/- Rows of items: ==, slices.Equal, slices.SortFunc. -/
namespace Go.Proofs.YtofkkenmkflmiaaGreatDoor
set_option linter.unusedVariables false
set_option linter.unusedSimpArgs false
open Go.RowKit Go.Sort Go.Shelf
attribute [local go_sem ↓] Go.wp_at_zero Go.wp_at_succ

instance : Inhabited Itm := ⟨⟨[], [], 0, [], 0, [], []⟩⟩

end Go.Proofs.YtofkkenmkflmiaaGreatDoor

/- Rows of what is left: ==, slices.Equal. -/
namespace Go.Proofs.YtofkkenmkflmiaaGreatDoor
set_option linter.unusedVariables false
set_option linter.unusedSimpArgs false
open Go.RowKit Go.Sort Go.Shelf
attribute [local go_sem ↓] Go.wp_at_zero Go.wp_at_succ

/-- An item that is left out, and why. -/
structure Lft where
  id : Str
  why : Int
def lftC (x : Lft) : List Value := [.string ⟨x.id.toArray⟩, .int .i64 x.why]
def lftA (x : Lft) : Value := .agg #[.string ⟨x.id.toArray⟩, .int .i64 x.why]
def lftV (xs : List Lft) : List Value := xs.flatMap lftC
theorem lftV_len (xs : List Lft) : (lftV xs).length = xs.length * 2 := flatK_len (enc := lftC) (k := 2) (fun _ => rfl) xs
theorem lftV_snoc (xs : List Lft) (x : Lft) : lftV (xs ++ [x]) = lftV xs ++ lftC x := by simp [lftV]
instance : Inhabited Lft := ⟨⟨[], 0⟩⟩
def lftEq (x y : Lft) : Bool := decide (x.id = y.id) && decide (x.why = y.why)
theorem lftEq_refl (x : Lft) : lftEq x x = true := by simp [lftEq]
theorem info_lft : (Tryz.prog.info? 48).map (fun i => (i.zero, i.size, i.bytes)) = some (some (.agg #[.string ⟨#[]⟩, .int .i64 0]), 2, 24) := by kernel_rfl

theorem eqTypeLft : Tryz.prog.stoodInHeld 48 = false := by kernel_rfl
theorem eqGuardTLft : Tryz.prog.eqGuardType Tryz.prog.depth 48 = false := by kernel_rfl
theorem eqStructLft : Tryz.prog.underlying 48 = some (.struct (Tryz.prog.fieldsOf 48)) := by kernel_rfl
set_option maxRecDepth 100000 in
set_option maxHeartbeats 2000000 in
theorem eqInLft (x y : Lft) (w : World) : Sem.run Tryz.prog (Op.equalIn 10000 48 (lftA x) (lftA y)) w = .ok (lftEq x y) w := by
  have us := Tryz.underlying9
  have ag := Tryz.isAgg9
  have zs := Tryz.sizeOf9
  have ui := Tryz.underlying3
  have ai := Tryz.isAgg3
  have zi := Tryz.sizeOf3
  have hS := eqStructLft
  unfold lftA lftEq
  rw [show (10000 : Nat) = 9999 + 1 from rfl, run_equalIn_agg w 9999 48 _ _ hS eqTypeLft]
  simp only [Program.fieldsOf, Tryz.underlying48]
  clear hS
  go_simp
  (repeat' split) <;> simp_all
theorem neqLft (x y : Lft) (w : World) : Sem.run Tryz.prog (binOp .neq 48 (lftA x) (lftA y)) w = .ok (.bool (!lftEq x y)) w := by
  have h := eqInLft x y w
  unfold lftA at h ⊢
  rw [run_neq_struct, h]
  rfl
theorem guardLft (op : BinOp) (a b : Operand) (x y : Lft) (w : World) : Sem.run Tryz.prog (eqGuard op 48 a b (lftA x) (lftA y)) w = .ok () w :=
  run_eqGuard_agg w op 48 a b _ _ eqGuardTLft
theorem neqAtLft : NeqAt Tryz.prog 48 (fun x => .agg (lftC x).toArray) lftEq := ⟨neqLft, guardLft⟩


set_option maxRecDepth 100000 in
set_option maxHeartbeats 2000000 in
theorem equal0Lft_calls (w : World) (A1 A2 : Option Addr) (c1 c2 : Nat) : Calls Tryz.prog 17 #[.slice A1 0 c1, .slice A2 0 c2] w (BoolPost w true) := by
  go_enter Tryz.func17, Tryz.ntmps17
  go_wp2_with fail
  refine wp_loop_rounds 1 ?_
  rw [rounds_succ]
  go_wp2_with fail
  go_ret
  exact BoolPost.of rfl (Mod.refl _ _)
set_option maxHeartbeats 1000000 in
theorem equalLft_calls (w : World) (v1 v2 : Value) (xs : List Lft) (h1 : Sl w 48 2 v1 (lftV xs)) (h2 : Sl w 48 2 v2 (lftV xs)) : Calls Tryz.prog 17 #[v1, v2] w (BoolPost w true) := by
  obtain ⟨A1, n1, c1, rfl, a1, a2, a3, a4⟩ := h1
  obtain ⟨A2, n2, c2, rfl, b1, b2, b3, b4⟩ := h2
  rw [lftV_len] at a3 b3
  obtain rfl : n1 = xs.length := by omega
  obtain rfl : n2 = xs.length := by omega
  by_cases h0 : xs.length = 0
  · rw [h0]
    exact equal0Lft_calls w A1 A2 c1 c2
  obtain ⟨g1, o1, rfl, r1⟩ := a4 (by omega)
  obtain ⟨g2, o2, rfl, r2⟩ := b4 (by omega)
  have hk : ∀ x, (lftC x).length = 2 := fun _ => rfl
  have hr : ∀ {g o : Nat}, RowAt w 48 g o (lftV xs) → ∀ j, j < xs.length → ∀ i v, (lftC xs[j]!)[i]? = some v → w.cell? ⟨g, o + j * 2 + i, none⟩ = some v := fun {g o} r j hj i v hv => by
    have hi : i < 2 := by
      rw [← hk xs[j]!]
      exact (List.getElem?_eq_some_iff.1 hv).1
    have h := r.cell (i := j * 2 + i) (u := v) (by
      show (xs.flatMap lftC)[j * 2 + i]? = some v
      rw [flatK_at hk (by omega) xs (j * 2 + i) (by omega), show (j * 2 + i) / 2 = j by omega, show (j * 2 + i) % 2 = i by omega]
      obtain ⟨h3, h4⟩ := List.getElem?_eq_some_iff.1 hv
      rw [getElem!_pos _ i h3, h4])
    rw [Nat.add_assoc]
    exact h
  refine (AnyQ.slices_Equal Tryz.eqLef 2 Tryz.isAgg48 Tryz.sizeOf48 lftC hk lftEq neqAtLft g1 o1 xs.length c1 g2 o2 xs.length c2 xs xs w (Nat.le_refl _) (Nat.le_refl _) (by omega) (by omega) (hr r1) (hr r2)).mono ?_
  rintro e w' ⟨rfl, q, rfl⟩
  rw [Lib.allEq_all lftEq _ _ rfl (fun j _ => lftEq_refl _)]
  exact BoolPost.of rfl ((Mod.refl _ _).drewN q)


/-- What is kept, and what is left out, and why. -/
def kepT (f : Flt) (l : List Itm) : List Str := kepS l fun y => decide (whyE f y (sumS y) = 0)
def kepB (f : Flt) (l : List Itm) (y : Itm) : Bool := decide (tpS l y.id ∈ kepT f l)
def kepI (f : Flt) (l : List Itm) (k : Nat) : List Str := ((l.take k).filter (kepB f l)).map (·.id)
def lefI (f : Flt) (l : List Itm) (k : Nat) : List Lft := ((l.take k).filter fun y => !kepB f l y).map fun y => ⟨y.id, whyE f y (sumS y)⟩
theorem kepI_s {f : Flt} {l : List Itm} {k : Nat} (h : k < l.length) : kepI f l (k + 1) = if kepB f l l[k] = true then kepI f l k ++ [l[k].id] else kepI f l k := by
  unfold kepI
  rw [List.take_succ_eq_append_getElem h, List.filter_append]
  by_cases hb : kepB f l l[k] = true <;> simp [hb]
theorem lefI_s {f : Flt} {l : List Itm} {k : Nat} (h : k < l.length) : lefI f l (k + 1) = if kepB f l l[k] = true then lefI f l k else lefI f l k ++ [⟨l[k].id, whyE f l[k] (sumS l[k])⟩] := by
  unfold lefI
  rw [List.take_succ_eq_append_getElem h, List.filter_append]
  by_cases hb : kepB f l l[k] = true
  · simp [hb]
  · simp only [Bool.not_eq_true] at hb
    simp [hb]
def topK (f : Flt) (l : List Itm) (k : Nat) : List Str := ((l.take k).filter fun y => decide (whyE f y (sumS y) = 0)).map fun y => tpS l y.id
theorem topK_s {f : Flt} {l : List Itm} {k : Nat} (h : k < l.length) : topK f l (k + 1) = if whyE f l[k] (sumS l[k]) = 0 then topK f l k ++ [tpS l l[k].id] else topK f l k := by
  unfold topK
  rw [List.take_succ_eq_append_getElem h, List.filter_append]
  by_cases hb : whyE f l[k] (sumS l[k]) = 0 <;> simp [hb]
theorem topK_all (f : Flt) (l : List Itm) : topK f l l.length = kepT f l := by unfold topK kepT kepS; rw [List.take_length]

end Go.Proofs.YtofkkenmkflmiaaGreatDoor

/- Keep of package intake. -/
namespace Go.Proofs.YtofkkenmkflmiaaGreatDoor
set_option linter.unusedVariables false
set_option linter.unusedSimpArgs false
open Go.RowKit Go.Sort

theorem itemE_neK {x : Itm} (h : itemE x = 0) : x.id ≠ [] := fun e => by have := itemE_id h; rw [e] at this; cases this
theorem idAt2_len {l : List Itm} (hz : ∀ x ∈ l, ItB x) (k : Nat) : (idAt2 l k).length ≤ 1000 := by
  unfold idAt2
  cases h : l[k]? with
  | none => simp
  | some x =>
    have := (hz x (List.mem_of_getElem? h)).1
    simp only []
    omega
theorem firstErrK (a b : Int) : firstErr [a, b] = if a ≠ 0 then a else b := by
  unfold firstErr firstErr firstErr
  by_cases ha : a = 0
  · by_cases hb : b = 0 <;> simp [ha, hb]
  · simp [ha]
def kepE (f : Flt) (l : List Itm) : Int := if itsE itemE l ≠ 0 then itsE itemE l else filE f
def KepPost (w : World) (f : Flt) (l : List Itm) (e : Ending) (w' : World) : Prop :=
  ∃ (A : Option Addr) (n c : Nat) (A2 : Option Addr) (n2 c2 : Nat), e = .returned (.tuple #[.slice A n c, .slice A2 n2 c2, .int .i64 (kepE f l)]) ∧ (kepE f l ≠ 0 → (A = none ∧ n = 0 ∧ c = 0) ∧ A2 = none ∧ n2 = 0 ∧ c2 = 0) ∧
    (kepE f l = 0 → Sl w' 9 1 (.slice A n c) (strsV (kepI f l l.length)) ∧ Sl w' 48 2 (.slice A2 n2 c2) (lftV (lefI f l l.length))) ∧ Pure w w'
def KpR1 (W2 : World) (bm : Nat) (f : Flt) (l : List Itm) (gk : Nat) (i : Value) (wr : World) : Prop :=
  ∃ k n : Nat, l.length - k = gk ∧ k ≤ l.length ∧ i = .int .i64 (k : Int) ∧ SetS wr bm n (topK f l k) ∧ n ≤ k ∧ Pure W2 wr
def KpR2 (W3 : World) (base : Nat) (f : Flt) (l : List Itm) (gk : Nat) (x y i : Value) (wr : World) : Prop :=
  ∃ (k : Nat) (ss : List Str) (ls : List Lft) (A : Option Addr) (c : Nat) (A2 : Option Addr) (c2 : Nat), l.length - k = gk ∧ k ≤ l.length ∧ x = .slice A ss.length c ∧ y = .slice A2 ls.length c2 ∧ i = .int .i64 (k : Int) ∧ kepI f l k = ss ∧ lefI f l k = ls ∧ ss.length ≤ k ∧ ls.length ≤ k ∧
    wr.ownsRow base 9 1 (.slice A ss.length c) ss.length (strsV ss) ∧ wr.ownsRow base 48 2 (.slice A2 ls.length c2) ls.length (lftV ls) ∧ Pure W3 wr ∧ base ≤ wr.heap.size

set_option maxRecDepth 100000 in
set_option maxHeartbeats 16000000 in
theorem keep_calls (w : World) (v vf : Value) (f : Flt) (l : List Itm) (hv : Its w v l) (hz : ∀ x ∈ l, ItB x) (hl : l.length ≤ 1000) (hf : FlV w f vf) (hfb : FlB f) (hE : Env w) (hD : Deb w) : Calls Tryz.prog 10 #[v, vf] w (KepPost w f l) := by
  have hmm := @run_makeMap Tryz.prog
  have HIA := Lib.hid (fun W (h : Pure w W) => check_calls W v l (hv.pure h) hz (by omega) (hE.pure h))
  have HIF := Lib.hid (fun W (h : Pure w W) => checkFilter_calls W vf f (hf.pure h) hfb)
  have HNT : Hid (itsE itemE l = 0 → ∀ W, Pure w W → Calls Tryz.prog 46 #[v] W (TreePost W l)) := Lib.hid (fun h0 W h => newTree_calls W v l (hv.pure h) hz (right_of (E := itemE) (fun x hx => itemE_neK hx) h0).distinct (by omega))
  have HRI : Hid (itsE itemE l = 0 → Right l) := Lib.hid (fun h0 => right_of (E := itemE) (fun x hx => itemE_neK hx) h0)
  have HWY := Lib.hid (fun W (h : Pure w W) x (hx : x ∈ l) => why_calls W x vf f (hf.pure h) (hz x hx) (hD.pure h))
  have HZ := Lib.hid hz
  obtain ⟨A, n, c, rfl, hc1, hc2, hl2, hr⟩ := hv
  have hln : l.length = n := by rw [itV_len] at hl2; omega
  subst hln
  have HR := Lib.hid hr
  obtain ⟨vk, vc, vs, rfl, _, _, _⟩ := hf
  have HKE : Hid (kepE f l = if itsE itemE l ≠ 0 then itsE itemE l else filE f) := Lib.hid rfl
  have HP0 := Lib.hid (pure_alloc w (.cells #[vk, vc, .int .i64 f.fr, .int .i64 f.tl, vs] 33))
  have HB0 := Lib.hid (Blk.new w 33 #[vk, vc, .int .i64 f.fr, .int .i64 f.tl, vs])
  unfold KepPost
  generalize kepE f l = ke at *
  obtain ⟨fa, hfa⟩ : ∃ fa, itsE itemE l = fa := ⟨_, rfl⟩
  obtain ⟨fb, hfb2⟩ : ∃ fb, filE f = fb := ⟨_, rfl⟩
  rw [hfa] at HIA HNT HRI HKE
  rw [hfb2] at HIF HKE
  clear hz hE hD hl2 hr hfb hfa hfb2
  go_enter Tryz.func10, Tryz.ntmps10
  go_upto_region 1 with (fail)
  generalize (w.alloc (.cells #[vk, vc, .int .i64 f.fr, .int .i64 f.tl, vs] 33)) = w1 at *
  obtain ⟨gf, hgf⟩ : ∃ gf, gf = w.heap.size := ⟨_, rfl⟩
  rw [← hgf] at HB0 ⊢
  clear hgf
  have hgf1 : gf < w1.heap.size := HB0.out.lt
  have HF : Hid (∀ W, Pure w1 W → _) := Lib.hid (fun W (h : Pure w1 W) => HB0.out.modp h)
  have HPW : Hid (∀ W, Pure w1 W → Pure w W) := Lib.hid (fun W h => HP0.out.trans h)
  clear HB0
  have HGs := Lib.hid (show ∀ (D : Nat → Bool) (zzi : Nat) (zq zq' : World), (fun _ zq => (fun Z => gf < Z.heap.size) zq) D zq → Mod (fun _ => False) zq zq' → (fun _ zq => (fun Z => gf < Z.heap.size) zq) (upd D zzi true) zq' from by intro D zzi zq zq' h hm; (exact Nat.lt_of_lt_of_le h hm.size))
  refine wp_region_inv (by kernel_rfl) (by kernel_rfl) (InvF (R := Mod (fun _ => False)) [.is (.slice A l.length c),
      .is (.int .i64 fa),
      .is (.agg #[vk, vc, .int .i64 f.fr, .int .i64 f.tl, vs]),
      .is (.int .i64 fb),
      ⟨fun zv zw => ∃ (g_4 : Nat), zv = .slice (some ⟨g_4, 0, none⟩) 2 2 ∧ w1.heap.size ≤ g_4 ∧ Blk zw g_4 35 #[.int .i64 fa, .int .i64 fb], (by rintro zv zw zx ⟨g_4, rfl, c0, q0⟩ hm; exact ⟨g_4, rfl, c0, (q0.modp hm)⟩), none, some 5⟩,
      .is (.int .i64 (firstErr [fa, fb])),
      .is (.int .i64 (firstErr [fa, fb]))]
      (PB w1 (fun _ => False) w1.heap.size (fun _ zq => (fun Z => gf < Z.heap.size) zq))) (InvF.start (PB.start (Mod.refl _ _) (Nat.le_refl _) (hgf1))) ?_ ?_
  · refine .cons ?_ (.cons ?_ (.cons ?_ (.cons ?_ (.cons ?_ (.cons ?_ (.cons ?_ .nil))))))
    · intro D V zw1 a hR hI K hK
      obtain ⟨hM1, hB1, hG1⟩ := hI.1
      have ze0 := hR.frame.other (t := 0) (by kernel_rfl) rfl
      rw [if_pos (by rfl)]
      go_simp
      exact hK (.slice A l.length c) _ (hI.next hR (by kernel_rfl) (Mod.refl _ _) (PB.quiet hI.1 (Mod.refl _ _) (HGs.out D 0 zw1 zw1 (hI.1).g (Mod.refl _ _))) (upd_same V 0 _))
    · intro D V zw1 a hR hI K hK
      obtain ⟨hM1, hB1, hG1⟩ := hI.1
      have zd0 := hR.pred 0 (by kernel_rfl)
      have zF0 : V 0 = .slice A l.length c := hI.2 0 zd0 rfl
      have zf0 := zF0; clear zF0
      have ze16 := hR.frame.done (t := 16) (j := 0) (by kernel_rfl) hR.ok zd0
      rw [if_pos (by rfl)]
      go_simp
      refine (HIA.out zw1 (HPW.out zw1 hM1)).mono ?_
      rintro e zw2 ⟨rfl, hm2⟩
      exact hK (.int .i64 fa) _ (hI.next hR (by kernel_rfl) hm2 (PB.quiet hI.1 hm2 (HGs.out D 1 _ _ (hI.1).g hm2)) (upd_same V 1 _))
    · intro D V zw1 a hR hI K hK
      obtain ⟨hM1, hB1, hG1⟩ := hI.1
      have ze3 := hR.frame.other (t := 3) (by kernel_rfl) rfl
      have zx0 := (HF.out zw1 hM1).cell 0; have zy0 := (HF.out zw1 hM1).frozen 0; simp at zx0
      have zx1 := (HF.out zw1 hM1).cell 1; have zy1 := (HF.out zw1 hM1).frozen 1; simp at zx1
      have zx2 := (HF.out zw1 hM1).cell 2; have zy2 := (HF.out zw1 hM1).frozen 2; simp at zx2
      have zx3 := (HF.out zw1 hM1).cell 3; have zy3 := (HF.out zw1 hM1).frozen 3; simp at zx3
      have zx4 := (HF.out zw1 hM1).cell 4; have zy4 := (HF.out zw1 hM1).frozen 4; simp at zx4
      rw [if_pos (by rfl)]
      go_simp
      exact hK (.agg #[vk, vc, .int .i64 f.fr, .int .i64 f.tl, vs]) _ (hI.next hR (by kernel_rfl) (Mod.refl _ _) (PB.quiet hI.1 (Mod.refl _ _) (HGs.out D 2 zw1 zw1 (hI.1).g (Mod.refl _ _))) (upd_same V 2 _))
    · intro D V zw1 a hR hI K hK
      obtain ⟨hM1, hB1, hG1⟩ := hI.1
      have zd2 := hR.pred 2 (by kernel_rfl)
      have zF2 : V 2 = .agg #[vk, vc, .int .i64 f.fr, .int .i64 f.tl, vs] := hI.2 2 zd2 rfl
      have zf2 := zF2; clear zF2
      have ze18 := hR.frame.done (t := 18) (j := 2) (by kernel_rfl) hR.ok zd2
      rw [if_pos (by rfl)]
      go_simp
      refine (HIF.out zw1 (HPW.out zw1 hM1)).mono ?_
      rintro e zw2 ⟨rfl, hm2⟩
      exact hK (.int .i64 fb) _ (hI.next hR (by kernel_rfl) hm2 (PB.quiet hI.1 hm2 (HGs.out D 3 _ _ (hI.1).g hm2)) (upd_same V 3 _))
    · intro D V zw1 a hR hI K hK
      obtain ⟨hM1, hB1, hG1⟩ := hI.1
      have zd1 := hR.pred 1 (by kernel_rfl)
      have zF1 : V 1 = .int .i64 fa := hI.2 1 zd1 rfl
      have zf1 := zF1; clear zF1
      have zd3 := hR.pred 3 (by kernel_rfl)
      have zF3 : V 3 = .int .i64 fb := hI.2 3 zd3 rfl
      have zf3 := zF3; clear zF3
      have ze17 := hR.frame.done (t := 17) (j := 1) (by kernel_rfl) hR.ok zd1
      have ze19 := hR.frame.done (t := 19) (j := 3) (by kernel_rfl) hR.ok zd3
      rw [if_pos (by rfl)]
      go_simp
      exact hK (_) _ (hI.next hR (by kernel_rfl) ((Mod.refl _ _).alloc _) (PB.quiet hI.1 (pure_alloc _ _) (HGs.out D 4 _ _ (hI.1).g ((Mod.refl _ _).alloc _))) (⟨_, upd_same V 4 _, (by omega), (Blk.new _ _ _)⟩))
    · intro D V zw1 a hR hI K hK
      obtain ⟨hM1, hB1, hG1⟩ := hI.1
      have zd4 := hR.pred 4 (by kernel_rfl)
      have zF4 : ∃ (g_4 : Nat), V 4 = .slice (some ⟨g_4, 0, none⟩) 2 2 ∧ w1.heap.size ≤ g_4 ∧ Blk zw1 g_4 35 #[.int .i64 fa, .int .i64 fb] := hI.2 4 zd4 (by show (!D 5) = true; rw [hR.not]; rfl)
      obtain ⟨g_4, zf4, c4_0, b4_0⟩ := zF4
      have ze20 := hR.frame.done (t := 20) (j := 4) (by kernel_rfl) hR.ok zd4
      rw [if_pos (by rfl)]
      go_simp
      refine (firstE_calls _ _ _ [fa, fb] b4_0.row0 (by simp)).mono ?_
      rintro e zw2 ⟨rfl, hm2⟩
      exact hK (.int .i64 (firstErr [fa, fb])) _ (hI.next hR (by kernel_rfl) hm2 (PB.quiet hI.1 hm2 (HGs.out D 5 _ _ (hI.1).g hm2)) (upd_same V 5 _))
    · intro D V zw1 a hR hI K hK
      obtain ⟨hM1, hB1, hG1⟩ := hI.1
      have zd5 := hR.pred 5 (by kernel_rfl)
      have zF5 : V 5 = .int .i64 (firstErr [fa, fb]) := hI.2 5 zd5 rfl
      have zf5 := zF5; clear zF5
      have ze21 := hR.frame.done (t := 21) (j := 5) (by kernel_rfl) hR.ok zd5
      rw [if_pos (by rfl)]
      go_simp
      exact hK (.int .i64 (firstErr [fa, fb])) _ (hI.next hR (by kernel_rfl) (Mod.refl _ _) (PB.quiet hI.1 (Mod.refl _ _) (HGs.out D 6 zw1 zw1 (hI.1).g (Mod.refl _ _))) (upd_same V 6 _))
  · intro D V w2 hD hI
    obtain ⟨hM1, hB1, hG1⟩ := hI.1
    have hMx := hM1
    clear hM1
    have hBx := hB1
    clear hB1
    have hGx := hG1
    clear hG1
    have zF0 : V 0 = .slice A l.length c := hI.2 0 (hD 0 (by decide)) rfl
    have zf0 := zF0; clear zF0
    have zF1 : V 1 = .int .i64 fa := hI.2 1 (hD 1 (by decide)) rfl
    have zf1 := zF1; clear zF1
    have zF2 : V 2 = .agg #[vk, vc, .int .i64 f.fr, .int .i64 f.tl, vs] := hI.2 2 (hD 2 (by decide)) rfl
    have zf2 := zF2; clear zF2
    have zF3 : V 3 = .int .i64 fb := hI.2 3 (hD 3 (by decide)) rfl
    have zf3 := zF3; clear zF3
    have zF5 : V 5 = .int .i64 (firstErr [fa, fb]) := hI.2 5 (hD 5 (by decide)) rfl
    have zf5 := zF5; clear zF5
    have zF6 : V 6 = .int .i64 (firstErr [fa, fb]) := hI.2 6 (hD 6 (by decide)) rfl
    have zf6 := zF6; clear zF6
    clear hI hD HGs
    simp only [frAll, Act.put, List.setIfInBounds_toArray, List.set_cons_zero, List.set_cons_succ, Nat.zero_add, Nat.reduceAdd, zf0, zf1, zf2, zf3, zf5, zf6]
    clear zf0 zf1 zf2 zf3 zf5 zf6
    generalize V 4 = u4
    clear V D
    have HM2 := Lib.hid hMx
    rw [firstErrK, ← HKE.out]
    clear HIA HIF hMx hGx
    by_cases h0 : ke = 0
    · subst h0
      have h0a : fa = 0 := Classical.byContradiction fun h => by have := HKE.out; rw [if_pos h] at this; exact h this.symm
      have HC := Lib.hid (HNT.out h0a w2 (HPW.out w2 HM2.out))
      have HRT := Lib.hid (HRI.out h0a)
      clear HNT HRI HKE h0a
      go_wp2_with fail
      refine HC.out.mono ?_
      rintro e w3 ⟨bi, bk, vt, rfl, hT, m3⟩
      obtain ⟨At, nt, ct, rfl⟩ := hT.tops.form
      have HBT := Lib.hid (Blk.new w3 85 #[.map (some bi), .map (some bk), .slice At nt ct])
      have HPT := Lib.hid (pure_alloc w3 (.cells #[.map (some bi), .map (some bk), .slice At nt ct] 85))
      have HT := Lib.hid hT
      have HM3 := Lib.hid ((HM2.out.trans m3).trans HPT.out)
      have hgf3 : gf < w3.heap.size := by have := HM2.out.size; have := m3.size; omega
      clear HC hT m3 HM2
      go_upto_region 5 with (fail)
      have HTT : Hid (∀ W, Pure (w3.alloc (.cells #[.map (some bi), .map (some bk), .slice At nt ct] 85)) W → TreeIs W bi bk (.slice At nt ct) l) := Lib.hid (fun W h => HT.out.pure (HPT.out.trans h))
      have HBB : Hid (∀ W, Pure (w3.alloc (.cells #[.map (some bi), .map (some bk), .slice At nt ct] 85)) W → _) := Lib.hid (fun W (h : Pure (w3.alloc (.cells #[.map (some bi), .map (some bk), .slice At nt ct] 85)) W) => HBT.out.modp h)
      have hgt : w3.heap.size < (w3.alloc (.cells #[.map (some bi), .map (some bk), .slice At nt ct] 85)).heap.size := by rw [World.size_alloc]; omega
      clear HT HPT HBT
      generalize (w3.alloc (.cells #[.map (some bi), .map (some bk), .slice At nt ct] 85)) = W2 at *
      generalize w3.heap.size = gt at *
      have HPW2 : Hid (∀ W, Pure W2 W → Pure w W) := Lib.hid (fun W h => HPW.out W (HM3.out.trans h))
      have HF2 : Hid (∀ W, Pure W2 W → _) := Lib.hid (fun W (h : Pure W2 W) => HF.out W (HM3.out.trans h))
      have HTP : Hid (∀ W, Pure W2 W → ∀ k (h : k < l.length), Calls Tryz.prog 48 #[.agg #[.map (some bi), .map (some bk), .slice At nt ct], .string ⟨l[k].id.toArray⟩] W (StrPost W (tpS l l[k].id))) := Lib.hid (fun W h k hk => by
        have h1 := top_calls W l HRT.out HZ.out bi bk At nt ct (HTT.out W h) k hk
        rw [tpS_self HRT.out hk]
        exact h1)
      have HTL : Hid (∀ k (h : k < l.length), (tpS l l[k].id).length ≤ 1000) := Lib.hid (fun k hk => by rw [tpS_self HRT.out hk]; exact idAt2_len HZ.out _)
      have HM0 := Lib.hid (SetS.made W2)
      have HP2 := Lib.hid (pure_alloc W2 (.map #[] 0))
      clear HF HPW HTT HRT HM3
      go_wp2_with fail
      clear hmm
      obtain ⟨bm, hbm⟩ : ∃ bm, bm = W2.heap.size := ⟨_, rfl⟩
      have hb1 := Nat.le_of_eq hbm
      have hb2 := Nat.le_of_eq hbm.symm
      rw [← hbm] at HM0 ⊢
      clear hbm
      generalize W2.alloc (.map #[] 0) = w4 at *
      go_loopg [30] l.length (fun gk i wr => KpR1 W2 bm f l gk i wr)
      case atStart => exact ⟨0, 0, by omega, by omega, rfl, by simpa [topK] using HM0.out, by omega, HP2.out⟩
      case round =>
        clear HM0 HP2 w4
        obtain ⟨k, n, rfl, hk, rfl, hset, hn, hm⟩ := hrel
        by_cases hlt : k < l.length
        · obtain ⟨g, off, rfl, hrow⟩ := HR.out (by omega)
          obtain ⟨q0, q1, q2, q3, q4, q5, q6⟩ := item_cells (hrow.mod (HPW2.out _ hm) id) hlt
          have hts := topK_s (f := f) hlt
          have HWX := Lib.hid (fun W (h : Pure W2 W) => HWY.out W (HPW2.out W h) _ (List.getElem_mem hlt))
          have HTX := Lib.hid (fun W (h : Pure W2 W) => HTP.out W h k hlt)
          have htl := HTL.out k hlt
          have i1 : (0 : Int) ≤ (k : Int) := by omega
          have i2 : (k : Int) < (l.length : Int) := by omega
          clear hrow
          generalize tpS l l[k].id = tp at *
          generalize l[k] = x at *
          have HM4 := Lib.hid (hm.alloc (.cells (itQ x) 71))
          have HS4 := Lib.hid (hset.pure (pure_alloc wr (.cells (itQ x) 71)))
          have HB4 := Lib.hid (Blk.new wr 71 (itQ x))
          have HTS := Lib.hid hts
          unfold itQ at HM4 HS4 HB4
          unfold itA at HWX
          clear hset hm hts
          obtain ⟨we, hwe⟩ : ∃ we, whyE f x (sumS x) = we := ⟨_, rfl⟩
          rw [hwe] at HWX HTS
          clear hwe
          go_upto_region 9 with (fail)
          generalize (wr.alloc (.cells #[.string ⟨x.id.toArray⟩, .string ⟨x.cust.toArray⟩, .int .i64 x.kind, .string ⟨x.name.toArray⟩, .int .i64 x.tm, .string ⟨x.par.toArray⟩, .string ⟨x.text.toArray⟩] 71)) = w5 at *
          generalize wr.heap.size = gi at *
          have hB4 := HB4.out
          have hF4 := HF2.out _ HM4.out
          have HC5 := Lib.hid (HWX.out _ HM4.out)
          have y0 := hB4.cell 0; have y1 := hB4.cell 1; have y2 := hB4.cell 2; have y3 := hB4.cell 3; have y4 := hB4.cell 4; have y5 := hB4.cell 5; have y6 := hB4.cell 6; simp at y0 y1 y2 y3 y4 y5 y6
          have d0 := hF4.cell 0; have d1 := hF4.cell 1; have d2 := hF4.cell 2; have d3 := hF4.cell 3; have d4 := hF4.cell 4; simp at d0 d1 d2 d3 d4
          clear hB4 hF4 q0 q1 q2 q3 q4 q5 q6
          go_wp2_with fail
          refine HC5.out.mono ?_
          rintro e w6 ⟨rfl, m6⟩
          clear y0 y1 y2 y3 y4 y5 y6 d0 d1 d2 d3 d4 HC5
          have HM6 := Lib.hid (HM4.out.trans m6)
          have HS6 := Lib.hid (HS4.out.pure m6)
          have hB6 := HB4.out.modp m6
          have hT6 := HBB.out _ HM6.out
          have y0 := hB6.cell 0; have y1 := hB6.cell 1; have y2 := hB6.cell 2; have y3 := hB6.cell 3; have y4 := hB6.cell 4; have y5 := hB6.cell 5; have y6 := hB6.cell 6; simp at y0 y1 y2 y3 y4 y5 y6
          have d0 := hT6.cell 0; have d1 := hT6.cell 1; have d2 := hT6.cell 2; simp at d0 d1 d2
          clear hB6 hT6 HM4 HS4 HB4 m6
          by_cases h0 : we = 0
          · subst h0
            rw [if_pos rfl] at HTS
            have HC6 := Lib.hid (HTX.out _ HM6.out)
            go_wp2_with fail
            refine HC6.out.mono ?_
            rintro e w7 ⟨rfl, m7⟩
            have hbl := HS6.out.lt
            obtain ⟨w8, hrun8, hset8, hm8⟩ := (HS6.out.pure m7).add (t := 87) Tryz.underlying87 (by omega) tp (by omega)
            have HS8 := Lib.hid hset8
            have HM8 := Lib.hid ((HM6.out.trans m7).trans' hm8 (fun k hk hl => by omega))
            clear hset8 hm8 m7 HC6 HS6 HM6
            go_wp2_with fail
            go_roundg (l.length - (k + 1))
            case measure => omega
            case rel => exact ⟨k + 1, n + 1, rfl, by omega, by simp, by rw [HTS.out]; exact HS8.out, by omega, HM8.out⟩
          · have h0' : (we == 0) = false := by simpa using h0
            rw [if_neg h0] at HTS
            clear h0
            go_wp2_with fail
            go_roundg (l.length - (k + 1))
            case measure => omega
            case rel => exact ⟨k + 1, n, rfl, by omega, by simp, by rw [HTS.out]; exact HS6.out, by omega, HM6.out⟩
        · obtain rfl : k = l.length := by omega
          have hset2 := hset
          rw [topK_all] at hset2
          have HS : Hid (∀ W, Pure wr W → SetS W bm n (kepT f l)) := Lib.hid (fun W h => hset2.pure h)
          have HM := Lib.hid hm
          clear hset hset2 hm
          go_wp2_with fail
          obtain ⟨W3, hW3⟩ : ∃ W3, W3 = wr := ⟨_, rfl⟩
          subst hW3
          go_loopg [12, 13, 46] l.length (fun gk x y i wr => KpR2 W3 W3.heap.size f l gk x y i wr)
          case atStart => exact ⟨0, [], [], none, 0, none, 0, by omega, by omega, rfl, rfl, rfl, by simp [kepI], by simp [lefI], by simp, by simp, World.ownsRow_nil _ _ _ _, World.ownsRow_nil _ _ _ _, Mod.refl _ _, by omega⟩
          case round =>
            obtain ⟨k, ss, ls, A, c, A2, c2, rfl, hk, rfl, rfl, rfl, hki, hli, hsl, hll, own1, own2, hm, hbs⟩ := hrel
            by_cases hlt : k < l.length
            · obtain ⟨g, off, rfl, hrow⟩ := HR.out (by omega)
              obtain ⟨q0, q1, q2, q3, q4, q5, q6⟩ := item_cells (hrow.mod (HPW2.out _ (HM.out.trans hm)) id) hlt
              have hks := kepI_s (f := f) hlt
              have hls := lefI_s (f := f) hlt
              rw [hki] at hks
              rw [hli] at hls
              have HWX := Lib.hid (fun W (h : Pure W2 W) => HWY.out W (HPW2.out W h) _ (List.getElem_mem hlt))
              have HTX := Lib.hid (fun W (h : Pure W2 W) => HTP.out W h k hlt)
              have htl := HTL.out k hlt
              have hkb0 : kepB f l l[k] = decide (tpS l l[k].id ∈ kepT f l) := rfl
              have i1 : (0 : Int) ≤ (k : Int) := by omega
              have i2 : (k : Int) < (l.length : Int) := by omega
              clear hrow hki hli
              generalize tpS l l[k].id = tp at *
              generalize l[k] = x at *
              rw [hkb0] at hks hls
              clear hkb0
              have HHAS := Lib.hid (fun W (h : Pure W3 W) => (HS.out W h).has (t := 87) Tryz.underlying87 (fun W => by kernel_rfl) tp (by omega))
              obtain ⟨kb, hkb⟩ : ∃ kb, decide (tp ∈ kepT f l) = kb := ⟨_, rfl⟩
              rw [hkb] at hks hls HHAS
              clear hkb
              have hp4 := pure_alloc wr (.cells (itQ x) 71)
              have HM4 := Lib.hid (hm.trans hp4)
              have HO1 := Lib.hid (own_pure own1 hp4)
              have HO2 := Lib.hid (own_pure own2 hp4)
              have hbs4 : W3.heap.size ≤ (wr.alloc (.cells (itQ x) 71)).heap.size := by rw [World.size_alloc]; omega
              have HB4 := Lib.hid (Blk.new wr 71 (itQ x))
              have HKS := Lib.hid hks
              have HLS := Lib.hid hls
              unfold itQ at HM4 HO1 HO2 hbs4 HB4
              unfold itA at HWX
              obtain ⟨we, hwe⟩ : ∃ we, whyE f x (sumS x) = we := ⟨_, rfl⟩
              rw [hwe] at HWX HLS
              clear hks hls hp4 hm own1 own2 hwe
              go_upto_region 17 with (fail)
              generalize (wr.alloc (.cells #[.string ⟨x.id.toArray⟩, .string ⟨x.cust.toArray⟩, .int .i64 x.kind, .string ⟨x.name.toArray⟩, .int .i64 x.tm, .string ⟨x.par.toArray⟩, .string ⟨x.text.toArray⟩] 71)) = w5 at *
              generalize wr.heap.size = gi at *
              have hB4 := HB4.out
              have hT4 := HBB.out _ (HM.out.trans HM4.out)
              have HC5 := Lib.hid (HTX.out _ (HM.out.trans HM4.out))
              have y0 := hB4.cell 0; have y1 := hB4.cell 1; have y2 := hB4.cell 2; have y3 := hB4.cell 3; have y4 := hB4.cell 4; have y5 := hB4.cell 5; have y6 := hB4.cell 6; simp at y0 y1 y2 y3 y4 y5 y6
              have d0 := hT4.cell 0; have d1 := hT4.cell 1; have d2 := hT4.cell 2; simp at d0 d1 d2
              clear hB4 hT4 q0 q1 q2 q3 q4 q5 q6
              go_wp2_with fail
              refine HC5.out.mono ?_
              rintro e w6 ⟨rfl, m6⟩
              clear y0 y1 y2 y3 y4 y5 y6 d0 d1 d2 HC5
              have hm6 := HM4.out.trans m6
              have hhas := HHAS.out _ hm6
              have own1 := own_pure HO1.out m6
              have own2 := own_pure HO2.out m6
              have hb6 : W3.heap.size ≤ w6.heap.size := by have := m6.size; omega
              have hB6 := HB4.out.modp m6
              clear HHAS HM4 HO1 HO2 HB4 m6 HTX
              cases kb
              · rw [if_neg (by simp)] at HKS HLS
                have HB6 := Lib.hid hB6
                have HLV := Lib.hid (lftV_snoc ls ⟨x.id, we⟩)
                unfold lftC at HLV
                have hgi6 := hB6.lt
                clear hB6
                obtain ⟨i0, hi0, hz0, hz1, hz2⟩ := info_parts info_lft
                go_wp2_with fail
                have HGs := Lib.hid (show ∀ (D : Nat → Bool) (zzi : Nat) (zq zq' : World), zzi ≠ 8 → (fun D zq => (D 8 = false → (fun Z => Z.ownsRow W3.heap.size 48 2 (.slice A2 ls.length c2) ls.length (lftV ls) ∧ Blk Z gi 71 #[.string ⟨x.id.toArray⟩, .string ⟨x.cust.toArray⟩, .int .i64 x.kind, .string ⟨x.name.toArray⟩, .int .i64 x.tm, .string ⟨x.par.toArray⟩, .string ⟨x.text.toArray⟩]) zq) ∧ (fun Z => W3.heap.size ≤ Z.heap.size ∧ Z.ownsRow W3.heap.size 9 1 (.slice A ss.length c) ss.length (strsV ss)) zq) D zq → Mod (fun _ => False) zq zq' → (fun D zq => (D 8 = false → (fun Z => Z.ownsRow W3.heap.size 48 2 (.slice A2 ls.length c2) ls.length (lftV ls) ∧ Blk Z gi 71 #[.string ⟨x.id.toArray⟩, .string ⟨x.cust.toArray⟩, .int .i64 x.kind, .string ⟨x.name.toArray⟩, .int .i64 x.tm, .string ⟨x.par.toArray⟩, .string ⟨x.text.toArray⟩]) zq) ∧ (fun Z => W3.heap.size ≤ Z.heap.size ∧ Z.ownsRow W3.heap.size 9 1 (.slice A ss.length c) ss.length (strsV ss)) zq) (upd D zzi true) zq' from by intro D zzi zq zq' hi hh hm; refine ⟨fun hs => ?_, ?_⟩; (rw [upd_ne _ _ (Ne.symm hi)] at hs; have h := hh.1 hs; (exact ⟨own_pure h.1 hm, h.2.modp hm⟩)); (have h := hh.2; (exact ⟨Nat.le_trans h.1 hm.size, own_pure h.2 hm⟩)))
                refine wp_region_inv (by kernel_rfl) (by kernel_rfl) (InvF (R := Mod (fun _ => False)) [.is (.slice A2 ls.length c2),
                    .is (.pointer (some ⟨gi, 0, none⟩)),
                    .is (.string ⟨x.id.toArray⟩),
                    .is (.agg #[.string ⟨x.id.toArray⟩, .string ⟨x.cust.toArray⟩, .int .i64 x.kind, .string ⟨x.name.toArray⟩, .int .i64 x.tm, .string ⟨x.par.toArray⟩, .string ⟨x.text.toArray⟩]),
                    .is (.agg #[vk, vc, .int .i64 f.fr, .int .i64 f.tl, vs]),
                    .is (.int .i64 we),
                    .is (.agg #[.string ⟨x.id.toArray⟩, .int .i64 we]),
                    ⟨fun zv zw => ∃ (g_7 : Nat), zv = .slice (some ⟨g_7, 0, none⟩) 1 1 ∧ w6.heap.size ≤ g_7 ∧ Blk zw g_7 48 #[.string ⟨x.id.toArray⟩, .int .i64 we], (by rintro zv zw zx ⟨g_7, rfl, c0, q0⟩ hm; exact ⟨g_7, rfl, c0, (q0.modp hm)⟩), none, some 8⟩,
                    ⟨fun zv zw => ∃ (g_8 : Nat) (cap_8 : Nat), zv = .slice (some ⟨g_8, 0, none⟩) (ls.length + 1) cap_8 ∧ zw.ownsRow W3.heap.size 48 2 (.slice (some ⟨g_8, 0, none⟩) (ls.length + 1) cap_8) (ls.length + 1) (lftV (ls ++ [⟨x.id, we⟩])), (by rintro zv zw zx ⟨g_8, cap_8, rfl, q0⟩ hm; exact ⟨g_8, cap_8, rfl, (own_pure q0 hm)⟩), none, none⟩,
                    ⟨fun zv zw => ∃ (g_9 : Nat) (cap_9 : Nat), zv = .slice (some ⟨g_9, 0, none⟩) (ls.length + 1) cap_9 ∧ zw.ownsRow W3.heap.size 48 2 (.slice (some ⟨g_9, 0, none⟩) (ls.length + 1) cap_9) (ls.length + 1) (lftV (ls ++ [⟨x.id, we⟩])), (by rintro zv zw zx ⟨g_9, cap_9, rfl, q0⟩ hm; exact ⟨g_9, cap_9, rfl, (own_pure q0 hm)⟩), none, none⟩]
                    (PB W3 (fun _ => False) w6.heap.size (fun D zq => (D 8 = false → (fun Z => Z.ownsRow W3.heap.size 48 2 (.slice A2 ls.length c2) ls.length (lftV ls) ∧ Blk Z gi 71 #[.string ⟨x.id.toArray⟩, .string ⟨x.cust.toArray⟩, .int .i64 x.kind, .string ⟨x.name.toArray⟩, .int .i64 x.tm, .string ⟨x.par.toArray⟩, .string ⟨x.text.toArray⟩]) zq) ∧ (fun Z => W3.heap.size ≤ Z.heap.size ∧ Z.ownsRow W3.heap.size 9 1 (.slice A ss.length c) ss.length (strsV ss)) zq))) (InvF.start (PB.start hm6 (Nat.le_refl _) (⟨fun _ => ⟨own2.drew, HB6.out.drew⟩, ⟨hb6, own1.drew⟩⟩))) ?_ ?_
                · refine .cons ?_ (.cons ?_ (.cons ?_ (.cons ?_ (.cons ?_ (.cons ?_ (.cons ?_ (.cons ?_ (.cons ?_ (.cons ?_ .nil)))))))))
                  · intro D V zw1 a hR hI K hK
                    obtain ⟨hM1, hB1, hG1⟩ := hI.1
                    obtain ⟨hGK, hG1⟩ := hG1
                    obtain ⟨hG1a, hG1b⟩ := hG1
                    have ze13 := hR.frame.undone (t := 13) (j := 9) (by kernel_rfl) (hR.later 9 rfl (by kernel_rfl)) rfl
                    rw [if_pos (by rfl)]
                    go_simp
                    exact hK (.slice A2 ls.length c2) _ (hI.next hR (by kernel_rfl) (Mod.refl _ _) (PB.quiet hI.1 (Mod.refl _ _) (HGs.out D 0 zw1 zw1 (by omega) (hI.1).g (Mod.refl _ _))) (upd_same V 0 _))
                  · intro D V zw1 a hR hI K hK
                    obtain ⟨hM1, hB1, hG1⟩ := hI.1
                    obtain ⟨hGK, hG1⟩ := hG1
                    obtain ⟨hG1a, hG1b⟩ := hG1
                    have ze15 := hR.frame.other (t := 15) (by kernel_rfl) rfl
                    rw [if_pos (by rfl)]
                    go_simp
                    exact hK (.pointer (some ⟨gi, 0, none⟩)) _ (hI.next hR (by kernel_rfl) (Mod.refl _ _) (PB.quiet hI.1 (Mod.refl _ _) (HGs.out D 1 zw1 zw1 (by omega) (hI.1).g (Mod.refl _ _))) (upd_same V 1 _))
                  · intro D V zw1 a hR hI K hK
                    obtain ⟨hM1, hB1, hG1⟩ := hI.1
                    obtain ⟨hGK, hG1⟩ := hG1
                    obtain ⟨hG1a, hG1b⟩ := hG1
                    have zd1 := hR.pred 1 (by kernel_rfl)
                    have zF1 : V 1 = .pointer (some ⟨gi, 0, none⟩) := hI.2 1 zd1 rfl
                    have zf1 := zF1; clear zF1
                    have ze62 := hR.frame.done (t := 62) (j := 1) (by kernel_rfl) hR.ok zd1
                    have hd8 : D 8 = false := by cases hs : D 8 with | false => rfl | true => (have h7 := hR.closed 8 _ 7 rfl (by kernel_rfl) hs; have h6 := hR.closed 7 _ 6 rfl (by kernel_rfl) h7; have h2 := hR.closed 6 _ 2 rfl (by kernel_rfl) h6; rw [hR.not] at h2; cases h2)
                    have hBX := (hGK hd8).2
                    have zx0 := (hBX).cell 0; have zy0 := (hBX).frozen 0; simp at zx0
                    rw [if_pos (by rfl)]
                    go_simp
                    exact hK (.string ⟨x.id.toArray⟩) _ (hI.next hR (by kernel_rfl) (Mod.refl _ _) (PB.quiet hI.1 (Mod.refl _ _) (HGs.out D 2 zw1 zw1 (by omega) (hI.1).g (Mod.refl _ _))) (upd_same V 2 _))
                  · intro D V zw1 a hR hI K hK
                    obtain ⟨hM1, hB1, hG1⟩ := hI.1
                    obtain ⟨hGK, hG1⟩ := hG1
                    obtain ⟨hG1a, hG1b⟩ := hG1
                    have ze15 := hR.frame.other (t := 15) (by kernel_rfl) rfl
                    have hd8 : D 8 = false := by cases hs : D 8 with | false => rfl | true => (have h7 := hR.closed 8 _ 7 rfl (by kernel_rfl) hs; have h6 := hR.closed 7 _ 6 rfl (by kernel_rfl) h7; have h5 := hR.closed 6 _ 5 rfl (by kernel_rfl) h6; have h3 := hR.closed 5 _ 3 rfl (by kernel_rfl) h5; rw [hR.not] at h3; cases h3)
                    have hBX := (hGK hd8).2
                    have zx0 := (hBX).cell 0; have zy0 := (hBX).frozen 0; simp at zx0
                    have zx1 := (hBX).cell 1; have zy1 := (hBX).frozen 1; simp at zx1
                    have zx2 := (hBX).cell 2; have zy2 := (hBX).frozen 2; simp at zx2
                    have zx3 := (hBX).cell 3; have zy3 := (hBX).frozen 3; simp at zx3
                    have zx4 := (hBX).cell 4; have zy4 := (hBX).frozen 4; simp at zx4
                    have zx5 := (hBX).cell 5; have zy5 := (hBX).frozen 5; simp at zx5
                    have zx6 := (hBX).cell 6; have zy6 := (hBX).frozen 6; simp at zx6
                    rw [if_pos (by rfl)]
                    go_simp
                    exact hK (.agg #[.string ⟨x.id.toArray⟩, .string ⟨x.cust.toArray⟩, .int .i64 x.kind, .string ⟨x.name.toArray⟩, .int .i64 x.tm, .string ⟨x.par.toArray⟩, .string ⟨x.text.toArray⟩]) _ (hI.next hR (by kernel_rfl) (Mod.refl _ _) (PB.quiet hI.1 (Mod.refl _ _) (HGs.out D 3 zw1 zw1 (by omega) (hI.1).g (Mod.refl _ _))) (upd_same V 3 _))
                  · intro D V zw1 a hR hI K hK
                    obtain ⟨hM1, hB1, hG1⟩ := hI.1
                    obtain ⟨hGK, hG1⟩ := hG1
                    obtain ⟨hG1a, hG1b⟩ := hG1
                    have ze3 := hR.frame.other (t := 3) (by kernel_rfl) rfl
                    have zx0 := (HF2.out zw1 (HM.out.trans hM1)).cell 0; have zy0 := (HF2.out zw1 (HM.out.trans hM1)).frozen 0; simp at zx0
                    have zx1 := (HF2.out zw1 (HM.out.trans hM1)).cell 1; have zy1 := (HF2.out zw1 (HM.out.trans hM1)).frozen 1; simp at zx1
                    have zx2 := (HF2.out zw1 (HM.out.trans hM1)).cell 2; have zy2 := (HF2.out zw1 (HM.out.trans hM1)).frozen 2; simp at zx2
                    have zx3 := (HF2.out zw1 (HM.out.trans hM1)).cell 3; have zy3 := (HF2.out zw1 (HM.out.trans hM1)).frozen 3; simp at zx3
                    have zx4 := (HF2.out zw1 (HM.out.trans hM1)).cell 4; have zy4 := (HF2.out zw1 (HM.out.trans hM1)).frozen 4; simp at zx4
                    rw [if_pos (by rfl)]
                    go_simp
                    exact hK (.agg #[vk, vc, .int .i64 f.fr, .int .i64 f.tl, vs]) _ (hI.next hR (by kernel_rfl) (Mod.refl _ _) (PB.quiet hI.1 (Mod.refl _ _) (HGs.out D 4 zw1 zw1 (by omega) (hI.1).g (Mod.refl _ _))) (upd_same V 4 _))
                  · intro D V zw1 a hR hI K hK
                    obtain ⟨hM1, hB1, hG1⟩ := hI.1
                    obtain ⟨hGK, hG1⟩ := hG1
                    obtain ⟨hG1a, hG1b⟩ := hG1
                    have zd3 := hR.pred 3 (by kernel_rfl)
                    have zF3 : V 3 = .agg #[.string ⟨x.id.toArray⟩, .string ⟨x.cust.toArray⟩, .int .i64 x.kind, .string ⟨x.name.toArray⟩, .int .i64 x.tm, .string ⟨x.par.toArray⟩, .string ⟨x.text.toArray⟩] := hI.2 3 zd3 rfl
                    have zf3 := zF3; clear zF3
                    have zd4 := hR.pred 4 (by kernel_rfl)
                    have zF4 : V 4 = .agg #[vk, vc, .int .i64 f.fr, .int .i64 f.tl, vs] := hI.2 4 zd4 rfl
                    have zf4 := zF4; clear zF4
                    have ze64 := hR.frame.done (t := 64) (j := 3) (by kernel_rfl) hR.ok zd3
                    have ze65 := hR.frame.done (t := 65) (j := 4) (by kernel_rfl) hR.ok zd4
                    rw [if_pos (by rfl)]
                    go_simp
                    refine (HWX.out zw1 (HM.out.trans hM1)).mono ?_
                    rintro e zw2 ⟨rfl, hm2⟩
                    exact hK (.int .i64 we) _ (hI.next hR (by kernel_rfl) hm2 (PB.quiet hI.1 hm2 (HGs.out D 5 _ _ (by omega) (hI.1).g hm2)) (upd_same V 5 _))
                  · intro D V zw1 a hR hI K hK
                    obtain ⟨hM1, hB1, hG1⟩ := hI.1
                    obtain ⟨hGK, hG1⟩ := hG1
                    obtain ⟨hG1a, hG1b⟩ := hG1
                    have zd2 := hR.pred 2 (by kernel_rfl)
                    have zF2 : V 2 = .string ⟨x.id.toArray⟩ := hI.2 2 zd2 rfl
                    have zf2 := zF2; clear zF2
                    have zd5 := hR.pred 5 (by kernel_rfl)
                    have zF5 : V 5 = .int .i64 we := hI.2 5 zd5 rfl
                    have zf5 := zF5; clear zF5
                    have ze63 := hR.frame.done (t := 63) (j := 2) (by kernel_rfl) hR.ok zd2
                    have ze66 := hR.frame.done (t := 66) (j := 5) (by kernel_rfl) hR.ok zd5
                    rw [if_pos (by rfl)]
                    go_simp
                    exact hK (_) _ (hI.next hR (by kernel_rfl) (Mod.refl _ _) (PB.quiet hI.1 (Mod.refl _ _) (HGs.out D 6 zw1 zw1 (by omega) (hI.1).g (Mod.refl _ _))) (upd_same V 6 _))
                  · intro D V zw1 a hR hI K hK
                    obtain ⟨hM1, hB1, hG1⟩ := hI.1
                    obtain ⟨hGK, hG1⟩ := hG1
                    obtain ⟨hG1a, hG1b⟩ := hG1
                    have zd6 := hR.pred 6 (by kernel_rfl)
                    have zF6 : V 6 = .agg #[.string ⟨x.id.toArray⟩, .int .i64 we] := hI.2 6 zd6 rfl
                    have zf6 := zF6; clear zF6
                    have ze67 := hR.frame.done (t := 67) (j := 6) (by kernel_rfl) hR.ok zd6
                    rw [if_pos (by rfl)]
                    go_simp
                    exact hK (_) _ (hI.next hR (by kernel_rfl) ((Mod.refl _ _).alloc _) (PB.quiet hI.1 (pure_alloc _ _) (HGs.out D 7 _ _ (by omega) (hI.1).g ((Mod.refl _ _).alloc _))) (⟨_, upd_same V 7 _, (by omega), (Blk.new _ _ _)⟩))
                  · intro D V zw1 a hR hI K hK
                    obtain ⟨hM1, hB1, hG1⟩ := hI.1
                    obtain ⟨hGK, hG1⟩ := hG1
                    obtain ⟨hG1a, hG1b⟩ := hG1
                    have zd0 := hR.pred 0 (by kernel_rfl)
                    have zF0 : V 0 = .slice A2 ls.length c2 := hI.2 0 zd0 rfl
                    have zf0 := zF0; clear zF0
                    have zd7 := hR.pred 7 (by kernel_rfl)
                    have zF7 : ∃ (g_7 : Nat), V 7 = .slice (some ⟨g_7, 0, none⟩) 1 1 ∧ w6.heap.size ≤ g_7 ∧ Blk zw1 g_7 48 #[.string ⟨x.id.toArray⟩, .int .i64 we] := hI.2 7 zd7 (by show (!D 8) = true; rw [hR.not]; rfl)
                    obtain ⟨g_7, zf7, c7_0, b7_0⟩ := zF7
                    have ze61 := hR.frame.done (t := 61) (j := 0) (by kernel_rfl) hR.ok zd0
                    have ze68 := hR.frame.done (t := 68) (j := 7) (by kernel_rfl) hR.ok zd7
                    rw [if_pos (by rfl)]
                    have hown := (hGK hR.not).1
                    refine wp_append_lies _ (.tmp 61) (.tmp 68) 37 (by rfl) W3.heap.size 48 i0 _ 2 24 Tryz.underlying37 hi0 hz0 hz1 hz2 (by rfl) (by omega) (.slice A2 ls.length c2) (ls.length) (lftV ls) ?_ hown ⟨g_7, 0, none⟩ 1 1 [.string ⟨x.id.toArray⟩, .int .i64 we] ?_ (by rfl) (World.news_of_block (cs := #[.string ⟨x.id.toArray⟩, .int .i64 we]) (t := 48) (fr := (0, 0)) b7_0) (by simp [Value.oneCell']) (by omega) (by simp [maxLen]; omega) (by omega) (by omega) zw1.heap.size rfl ?_
                    · show a.tmps.getD 61 undef = _; simp [ze61, zf0]
                    · show a.tmps.getD 68 undef = _; simp [ze68, zf7]
                    intro g5 cap5 zw2 hown5 hgrow hat hlt5
                    have hT := mod_grown hgrow
                    have hTb : ∀ j, (.slice A2 ls.length c2 : Value).ownBlock = some j → W3.heap.size ≤ j := own_block hown
                    refine hK _ _ (InvF.last (PB.writes hI.1 (fun j hj hl => by have := hTb j hj; omega) hT ⟨fun hs => absurd hs (by rw [upd_same]; decide), ⟨Nat.le_trans hG1a hgrow.size, own_grown hG1b hown (by decide) hgrow⟩⟩) ⟨_, _, upd_same V 8 _, by rw [HLV.out]; exact hown5⟩ ?_)
                    intro k hk hDk hlv
                    have hkl := hR.lt k hDk
                    have hv := hI.2 k hDk (liveB_of hlv)
                    match k, hk, hDk, hlv, hkl, hv with
                    | 0, _, _, _, _, hv => exact hv
                    | 1, _, _, _, _, hv => exact hv
                    | 2, _, _, _, _, hv => exact hv
                    | 3, _, _, _, _, hv => exact hv
                    | 4, _, _, _, _, hv => exact hv
                    | 5, _, _, _, _, hv => exact hv
                    | 6, _, _, _, _, hv => exact hv
                    | 7, _, _, hlv, _, _ => exact absurd hlv (by show ¬ (!upd D 8 true 8) = true; rw [upd_same]; decide)
                    | 8, hk, _, _, _, _ => exact absurd rfl hk
                    | 9, _, hDk, _, _, _ => exact absurd hDk (by rw [hR.later 9 rfl (by kernel_rfl)]; decide)
                    | k + 10, _, _, _, hkl, _ => exact absurd hkl (by simp)
                  · intro D V zw1 a hR hI K hK
                    obtain ⟨hM1, hB1, hG1⟩ := hI.1
                    obtain ⟨hGK, hG1⟩ := hG1
                    obtain ⟨hG1a, hG1b⟩ := hG1
                    have zd8 := hR.pred 8 (by kernel_rfl)
                    have zF8 : ∃ (g_8 : Nat) (cap_8 : Nat), V 8 = .slice (some ⟨g_8, 0, none⟩) (ls.length + 1) cap_8 ∧ zw1.ownsRow W3.heap.size 48 2 (.slice (some ⟨g_8, 0, none⟩) (ls.length + 1) cap_8) (ls.length + 1) (lftV (ls ++ [⟨x.id, we⟩])) := hI.2 8 zd8 rfl
                    obtain ⟨g_8, cap_8, zf8, b8_0⟩ := zF8
                    have ze69 := hR.frame.done (t := 69) (j := 8) (by kernel_rfl) hR.ok zd8
                    rw [if_pos (by rfl)]
                    go_simp
                    exact hK (.slice (some ⟨g_8, 0, none⟩) (ls.length + 1) cap_8) _ (hI.next hR (by kernel_rfl) (Mod.refl _ _) (PB.quiet hI.1 (Mod.refl _ _) (HGs.out D 9 zw1 zw1 (by omega) (hI.1).g (Mod.refl _ _))) (⟨g_8, cap_8, upd_same V 9 _, b8_0⟩))
                · intro D V w7 hD hI
                  obtain ⟨hM1, hB1, hG1⟩ := hI.1
                  have hMx := hM1
                  clear hM1
                  have hBx := hB1
                  clear hB1
                  have hGx := hG1.2
                  clear hG1
                  have zF0 : V 0 = .slice A2 ls.length c2 := hI.2 0 (hD 0 (by decide)) rfl
                  have zf0 := zF0; clear zF0
                  have zF1 : V 1 = .pointer (some ⟨gi, 0, none⟩) := hI.2 1 (hD 1 (by decide)) rfl
                  have zf1 := zF1; clear zF1
                  have zF2 : V 2 = .string ⟨x.id.toArray⟩ := hI.2 2 (hD 2 (by decide)) rfl
                  have zf2 := zF2; clear zF2
                  have zF3 : V 3 = .agg #[.string ⟨x.id.toArray⟩, .string ⟨x.cust.toArray⟩, .int .i64 x.kind, .string ⟨x.name.toArray⟩, .int .i64 x.tm, .string ⟨x.par.toArray⟩, .string ⟨x.text.toArray⟩] := hI.2 3 (hD 3 (by decide)) rfl
                  have zf3 := zF3; clear zF3
                  have zF4 : V 4 = .agg #[vk, vc, .int .i64 f.fr, .int .i64 f.tl, vs] := hI.2 4 (hD 4 (by decide)) rfl
                  have zf4 := zF4; clear zF4
                  have zF5 : V 5 = .int .i64 we := hI.2 5 (hD 5 (by decide)) rfl
                  have zf5 := zF5; clear zF5
                  have zF6 : V 6 = .agg #[.string ⟨x.id.toArray⟩, .int .i64 we] := hI.2 6 (hD 6 (by decide)) rfl
                  have zf6 := zF6; clear zF6
                  have zF8 : ∃ (g_8 : Nat) (cap_8 : Nat), V 8 = .slice (some ⟨g_8, 0, none⟩) (ls.length + 1) cap_8 ∧ w7.ownsRow W3.heap.size 48 2 (.slice (some ⟨g_8, 0, none⟩) (ls.length + 1) cap_8) (ls.length + 1) (lftV (ls ++ [⟨x.id, we⟩])) := hI.2 8 (hD 8 (by decide)) rfl
                  obtain ⟨g_8, cap_8, zf8, b8_0⟩ := zF8
                  have zF9 : ∃ (g_9 : Nat) (cap_9 : Nat), V 9 = .slice (some ⟨g_9, 0, none⟩) (ls.length + 1) cap_9 ∧ w7.ownsRow W3.heap.size 48 2 (.slice (some ⟨g_9, 0, none⟩) (ls.length + 1) cap_9) (ls.length + 1) (lftV (ls ++ [⟨x.id, we⟩])) := hI.2 9 (hD 9 (by decide)) rfl
                  obtain ⟨g_9, cap_9, zf9, b9_0⟩ := zF9
                  clear hI hD HGs
                  simp only [frAll, Act.put, List.setIfInBounds_toArray, List.set_cons_zero, List.set_cons_succ, Nat.zero_add, Nat.reduceAdd, zf0, zf1, zf2, zf3, zf4, zf5, zf6, zf8, zf9]
                  clear zf0 zf1 zf2 zf3 zf4 zf5 zf6 zf8 zf9
                  generalize V 7 = u7
                  clear V D
                  have HO7 := Lib.hid b9_0
                  have HO8 := Lib.hid hGx
                  have HM7 := Lib.hid hMx
                  clear b9_0 hGx hMx HB6 HWX HLV own1 own2
                  go_wp2_with fail
                  go_roundg (l.length - (k + 1))
                  case measure => omega
                  case rel => exact ⟨k + 1, ss, ls ++ [⟨x.id, we⟩], A, c, some ⟨g_9, 0, none⟩, cap_9, rfl, by omega, rfl, by simp, by simp, HKS.out, HLS.out, by omega, by simp; omega, HO8.out.2, by simpa using HO7.out, HM7.out, HO8.out.1⟩
              · rw [if_pos rfl] at HKS HLS
                obtain ⟨i0, hi0, hz0, hz1, hz2⟩ := info_parts info_str7
                have y0 := hB6.cell 0; have y1 := hB6.cell 1; have y2 := hB6.cell 2; have y3 := hB6.cell 3; have y4 := hB6.cell 4; have y5 := hB6.cell 5; have y6 := hB6.cell 6; simp at y0 y1 y2 y3 y4 y5 y6
                clear hB6 HWX
                go_wp2_with (at_builtin; refine wpList_append_lies _ rfl _ _ _ rfl W3.heap.size 9 i0 _ 1 16 Tryz.underlying29 hi0 hz0 hz1 hz2 rfl (by omega) (.slice A ss.length c) ss.length (strsV ss) rfl (own1.alloc _) ⟨w6.heap.size, 0, none⟩ 1 1 [.string ⟨x.id.toArray⟩] rfl rfl (World.news_of_block (cs := #[.string ⟨x.id.toArray⟩]) (t := 9) (fr := (0, 0)) (heap_alloc_new w6 _)) (by simp [Value.oneCell']) (by omega) (by simp [maxLen]; omega) (by omega) (by have := hm6.size; simp; omega) (w6.heap.size + 1) (by simp) ?_; intro g5 cap5 w5 hown5 hgrow hat hlt5)
                go_roundg (l.length - (k + 1))
                case measure => omega
                case rel =>
                  refine ⟨k + 1, ss ++ [x.id], ls, some ⟨g5, 0, none⟩, cap5, A2, c2, rfl, by omega, by simp, rfl, by simp, HKS.out, HLS.out, by simp; omega, by omega, ?_, own_grown (own_pure own2 (pure_alloc _ _)) (own_pure own1 (pure_alloc _ _)) (by decide) hgrow, (hm6.alloc _).grown hgrow (fun j hj => .inr (by have := own_block own1 j hj; omega)), by have := hgrow.size; simp at this; omega⟩
                  simpa [strsV] using hown5
            · obtain rfl : k = l.length := by omega
              have HO1 := Lib.hid (Sl.of_own own1)
              have HO2 := Lib.hid (Sl.of_own own2)
              have HMF := Lib.hid (HPW2.out _ (HM.out.trans hm))
              have HKI := Lib.hid hki
              have HLI := Lib.hid hli
              clear own1 own2 hm hki hli
              go_wp2_with fail
              refine bodyPost_ret (v := .tuple #[.slice A ss.length c, .slice A2 ls.length c2, .int .i64 0]) (by simp [results, Tryz.results10, go_sem]) rfl ?_
              exact ⟨A, ss.length, c, A2, ls.length, c2, rfl, by rw [HKI.out, HLI.out]; exact ⟨HO1.out, HO2.out⟩, HMF.out⟩
    · have h0' : (ke != 0) = true := by simpa using h0
      have H0 := Lib.hid h0
      clear h0 HNT HRI
      go_wp2_with fail
      refine bodyPost_ret (v := .tuple #[.slice none 0 0, .slice none 0 0, .int .i64 ke]) (by simp [results, Tryz.results10, go_sem]) rfl ?_
      exact ⟨none, 0, 0, none, 0, 0, rfl, fun _ => ⟨⟨rfl, rfl, rfl⟩, rfl, rfl, rfl⟩, fun h => absurd h H0.out, HPW.out _ HM2.out⟩

end Go.Proofs.YtofkkenmkflmiaaGreatDoor

/- KeepOf of the reference. -/
namespace Go.Proofs.YtofkkenmkflmiaaGreatDoor
set_option linter.unusedVariables false
set_option linter.unusedSimpArgs false
open Go.RowKit Go.Sort


set_option maxRecDepth 100000 in
set_option maxHeartbeats 1000000 in
theorem indexS2c_calls (w : World) (v : Value) (xs : List Str) (F : Nat) (c1 c2 : Value) (P : Str → Bool) (hv : Sl w 9 1 v (strsV xs))
    (hcf : ∀ (x : Str) (W : World), Sem.run Tryz.prog (callFunc F #[.string ⟨x.toArray⟩, c1, c2]) W = .ok (.enter F #[.string ⟨x.toArray⟩, c1, c2]) W)
    (hF : ∀ (x : Str) (W : World), x ∈ xs → Pure w W → Calls Tryz.prog F #[.string ⟨x.toArray⟩, c1, c2] W (BoolPost W (P x))) :
    Calls Tryz.prog 123 #[v, .func (.func F) #[] #[c1, c2]] w (IntPost w (idxQ P xs 0)) := by
  have HF := Lib.hid hF
  obtain ⟨A, n, c, rfl, hc1, hc2, hl, hr⟩ := hv
  have hln : xs.length = n := by simpa [strsV] using hl
  subst hln
  have HR := Lib.hid hr
  clear hF hl hr
  go_enter Tryz.func123, Tryz.ntmps123
  go_wp2_with fail
  go_loopg [8] xs.length (fun gk i wr => ∃ k : Nat, xs.length - k = gk ∧ k ≤ xs.length ∧ i = .int .i64 (k : Int) ∧ idxQ P xs 0 = idxQ P (xs.drop k) (k : Int) ∧ Pure w wr)
  case atStart => exact ⟨0, by omega, by omega, rfl, rfl, Mod.refl _ _⟩
  case round =>
    obtain ⟨k, rfl, hk, rfl, hix, hm⟩ := hrel
    have HIX := Lib.hid hix
    clear hix
    by_cases hlt : k < xs.length
    · obtain ⟨g, off, rfl, hrow⟩ := HR.out (by omega)
      have hq := (hrow.mod hm id).cell (strsV_get xs k hlt)
      have hd : xs.drop k = xs[k] :: xs.drop (k + 1) := List.drop_eq_getElem_cons hlt
      have hcall := HF.out xs[k] wr (List.getElem_mem hlt) hm
      have hi2 : idxQ P xs 0 = if P xs[k] then (k : Int) else idxQ P (xs.drop (k + 1)) ((k : Int) + 1) := by rw [HIX.out, hd]; rfl
      have HI2 := Lib.hid hi2
      have HC := Lib.hid hcall
      clear hd hi2 hcall hrow HIX
      generalize xs[k] = x at *
      go_wp2_with fail
      refine HC.out.mono ?_
      rintro e w1 ⟨rfl, hm1⟩
      cases hp : P x
      · go_wp2_with fail
        go_roundg (xs.length - (k + 1))
        case measure => omega
        case rel => exact ⟨k + 1, rfl, hlt, by simp, by rw [HI2.out, hp]; simp, hm.trans hm1⟩
      · go_wp2_with fail
        go_ret
        exact IntPost.of (by rw [HI2.out, hp]; rfl) (hm.trans hm1)
    · have hke : k = xs.length := by omega
      subst hke
      go_wp2_with fail
      go_ret
      exact IntPost.of (by rw [HIX.out, List.drop_of_length_le (Nat.le_refl _)]; rfl) hm


set_option maxRecDepth 100000 in
set_option maxHeartbeats 1000000 in
theorem containsS2c_calls (w : World) (v : Value) (xs : List Str) (F : Nat) (c1 c2 : Value) (P : Str → Bool) (hv : Sl w 9 1 v (strsV xs))
    (hcf : ∀ (x : Str) (W : World), Sem.run Tryz.prog (callFunc F #[.string ⟨x.toArray⟩, c1, c2]) W = .ok (.enter F #[.string ⟨x.toArray⟩, c1, c2]) W)
    (hF : ∀ (x : Str) (W : World), x ∈ xs → Pure w W → Calls Tryz.prog F #[.string ⟨x.toArray⟩, c1, c2] W (BoolPost W (P x))) :
    Calls Tryz.prog 63 #[v, .func (.func F) #[] #[c1, c2]] w (BoolPost w (xs.any P)) := by
  have HC := Lib.hid (indexS2c_calls w v xs F c1 c2 P hv hcf hF)
  have HI := Lib.hid (idxQ_any P xs 0 (by omega))
  clear hcf hF
  obtain ⟨A, n, c, rfl⟩ := hv.form
  clear hv
  go_enter Tryz.func63, Tryz.ntmps63
  go_wp2_with fail
  refine HC.out.mono ?_
  rintro e w1 ⟨rfl, hm1⟩
  generalize idxQ P xs 0 = r at *
  go_wp2_with fail
  go_ret
  exact BoolPost.of HI.out.symm hm1

/-- An item by its id that the filter lets by. -/
def kepP (f : Flt) (l : List Itm) (s : Str) : Bool := match l[idxId l s]? with
  | some y => decide (whyE f y (sumS y) = 0)
  | none => false
theorem fmB_has {l : List Itm} (h : Right l) {i : Nat} (hi : i < l.length) {s : Str} (hs : s ∈ fmB l l[i].id) : ∃ q, ∃ hq : q < l.length, plc l s = some q ∧ idxId l s = q := by
  unfold fmB at hs
  rw [idxId_self h hi] at hs
  unfold belS at hs
  obtain ⟨k, hkb, rfl⟩ := List.mem_map.1 hs
  obtain ⟨hk2, ht⟩ := (h.bel_top (h.tpI_mem hi)).1 hkb
  refine ⟨k, hk2, ?_, ?_⟩
  · rw [idAt2_eq hk2]
    exact plc_self h.distinct k hk2
  · rw [idAt2_eq hk2]
    exact idxId_self h hk2
theorem kep_any {f : Flt} {l : List Itm} (h : Right l) {i : Nat} (hi : i < l.length) : (fmB l l[i].id).any (kepP f l) = kepB f l l[i] := by
  rw [Bool.eq_iff_iff, List.any_eq_true]
  unfold kepB kepT
  rw [decide_eq_true_eq, h.kep_iff (fun y => decide (whyE f y (sumS y) = 0)) hi]
  constructor
  · rintro ⟨s, hs, hp⟩
    obtain ⟨q, hq, _, he⟩ := fmB_has h hi hs
    refine ⟨s, hs, by rw [he]; exact hq, ?_⟩
    unfold kepP at hp
    rw [List.getElem?_eq_getElem (show idxId l s < l.length by rw [he]; exact hq)] at hp
    exact hp
  · rintro ⟨s, hs, hk, hp⟩
    refine ⟨s, hs, ?_⟩
    unfold kepP
    rw [List.getElem?_eq_getElem hk]
    exact hp

set_option maxRecDepth 100000 in
set_option maxHeartbeats 8000000 in
theorem keepOf1_calls (w : World) (gf gs : Nat) (f : Flt) (l : List Itm) (vk vc vs : Value) (A : Option Addr) (c : Nat) (s : Str) (hbf : Blk w gf 33 #[vk, vc, .int .i64 f.fr, .int .i64 f.tl, vs]) (hbs : Blk w gs 26 #[.slice A l.length c])
    (hv : Its w (.slice A l.length c) l) (hz : ∀ x ∈ l, ItB x) (hkd : ∀ x ∈ l, 1 ≤ x.kind ∧ x.kind ≤ 4) (hf : FlV w f (.agg #[vk, vc, .int .i64 f.fr, .int .i64 f.tl, vs])) (q : Nat) (hq : q < l.length) (hp : plc l s = some q) (he : idxId l s = q) :
    Calls Tryz.prog 65 #[.string ⟨s.toArray⟩, .pointer (some ⟨gf, 0, none⟩), .pointer (some ⟨gs, 0, none⟩)] w (BoolPost w (kepP f l s)) := by
  have HF : Hid (∀ W, Pure w W → _) := Lib.hid (fun W (h : Pure w W) => hbf.modp h)
  have HG : Hid (∀ W, Pure w W → _) := Lib.hid (fun W (h : Pure w W) => hbs.modp h)
  have HPC := Lib.hid (fun W (h : Pure w W) => place_calls W _ l s (hv.pure h))
  have HWL := Lib.hid (fun W (h : Pure w W) => whyLeft_calls W l[q] _ f (hf.pure h) (hz _ (List.getElem_mem hq)) (hkd _ (List.getElem_mem hq)).1 (hkd _ (List.getElem_mem hq)).2)
  have HZ : Hid (plcZ l s = (q : Int)) := Lib.hid (by unfold plcZ; rw [hp])
  have HKP : Hid (kepP f l s = decide (whyE f l[q] (sumS l[q]) = 0)) := Lib.hid (by unfold kepP; rw [he, List.getElem?_eq_getElem hq])
  obtain ⟨_, _, _, hfm, _, _, _, hr⟩ := hv
  cases hfm
  obtain ⟨g, off, rfl, hrow⟩ := hr (by omega)
  have HCK : Hid (∀ W, Pure w W → _) := Lib.hid (fun W (h : Pure w W) => item_cells (hrow.mod h id) hq)
  rw [HZ.out] at HPC
  have i1 : (0 : Int) ≤ (q : Int) := by omega
  have i2 : (q : Int) < (l.length : Int) := by omega
  have hgf := hbf.lt
  clear hbf hbs hz hkd hf hp he hr hrow HZ
  generalize kepP f l s = kb at *
  generalize l[q] = y at *
  unfold itA at HWL
  obtain ⟨we, hwe⟩ : ∃ we, whyE f y (sumS y) = we := ⟨_, rfl⟩
  rw [hwe] at HWL HKP
  clear hwe
  go_enter Tryz.func65, Tryz.ntmps65
  go_upto_region 1 with (fail)
  obtain ⟨wb, hwb⟩ : ∃ wb, (we == 0) = wb := ⟨_, rfl⟩
  have HWB := Lib.hid hwb
  have HGs := Lib.hid (show ∀ (D : Nat → Bool) (zzi : Nat) (zq zq' : World), (fun _ zq => (fun Z => gf < Z.heap.size) zq) D zq → Mod (fun _ => False) zq zq' → (fun _ zq => (fun Z => gf < Z.heap.size) zq) (upd D zzi true) zq' from by intro D zzi zq zq' h hm; (exact Nat.lt_of_lt_of_le h hm.size))
  refine wp_region_inv (by kernel_rfl) (by kernel_rfl) (InvF (R := Mod (fun _ => False)) [.is (.agg #[vk, vc, .int .i64 f.fr, .int .i64 f.tl, vs]),
      .is (.slice (some ⟨g, off, none⟩) l.length c),
      .is (.slice (some ⟨g, off, none⟩) l.length c),
      .is (.string ⟨s.toArray⟩),
      .is (.int .i64 (q : Int)),
      .is (.pointer (some ⟨g, off + q * 7, none⟩)),
      .is (.agg #[.string ⟨y.id.toArray⟩, .string ⟨y.cust.toArray⟩, .int .i64 y.kind, .string ⟨y.name.toArray⟩, .int .i64 y.tm, .string ⟨y.par.toArray⟩, .string ⟨y.text.toArray⟩]),
      .is (.int .i64 we),
      .is (.bool wb),
      .is (.bool wb)]
      (PB w (fun _ => False) w.heap.size (fun _ zq => (fun Z => gf < Z.heap.size) zq))) (InvF.start (PB.start (Mod.refl _ _) (Nat.le_refl _) (hgf))) ?_ ?_
  · refine .cons ?_ (.cons ?_ (.cons ?_ (.cons ?_ (.cons ?_ (.cons ?_ (.cons ?_ (.cons ?_ (.cons ?_ (.cons ?_ .nil)))))))))
    · intro D V zw1 a hR hI K hK
      obtain ⟨hM1, hB1, hG1⟩ := hI.1
      have ze1 := hR.frame.other (t := 1) (by kernel_rfl) rfl
      have zx0 := (HF.out zw1 hM1).cell 0; have zy0 := (HF.out zw1 hM1).frozen 0; simp at zx0
      have zx1 := (HF.out zw1 hM1).cell 1; have zy1 := (HF.out zw1 hM1).frozen 1; simp at zx1
      have zx2 := (HF.out zw1 hM1).cell 2; have zy2 := (HF.out zw1 hM1).frozen 2; simp at zx2
      have zx3 := (HF.out zw1 hM1).cell 3; have zy3 := (HF.out zw1 hM1).frozen 3; simp at zx3
      have zx4 := (HF.out zw1 hM1).cell 4; have zy4 := (HF.out zw1 hM1).frozen 4; simp at zx4
      rw [if_pos (by rfl)]
      go_simp
      exact hK (.agg #[vk, vc, .int .i64 f.fr, .int .i64 f.tl, vs]) _ (hI.next hR (by kernel_rfl) (Mod.refl _ _) (PB.quiet hI.1 (Mod.refl _ _) (HGs.out D 0 zw1 zw1 (hI.1).g (Mod.refl _ _))) (upd_same V 0 _))
    · intro D V zw1 a hR hI K hK
      obtain ⟨hM1, hB1, hG1⟩ := hI.1
      have ze2 := hR.frame.other (t := 2) (by kernel_rfl) rfl
      have zx0 := (HG.out zw1 hM1).cell 0; have zy0 := (HG.out zw1 hM1).frozen 0; simp at zx0
      rw [if_pos (by rfl)]
      go_simp
      exact hK (.slice (some ⟨g, off, none⟩) l.length c) _ (hI.next hR (by kernel_rfl) (Mod.refl _ _) (PB.quiet hI.1 (Mod.refl _ _) (HGs.out D 1 zw1 zw1 (hI.1).g (Mod.refl _ _))) (upd_same V 1 _))
    · intro D V zw1 a hR hI K hK
      obtain ⟨hM1, hB1, hG1⟩ := hI.1
      have ze2 := hR.frame.other (t := 2) (by kernel_rfl) rfl
      have zx0 := (HG.out zw1 hM1).cell 0; have zy0 := (HG.out zw1 hM1).frozen 0; simp at zx0
      rw [if_pos (by rfl)]
      go_simp
      exact hK (.slice (some ⟨g, off, none⟩) l.length c) _ (hI.next hR (by kernel_rfl) (Mod.refl _ _) (PB.quiet hI.1 (Mod.refl _ _) (HGs.out D 2 zw1 zw1 (hI.1).g (Mod.refl _ _))) (upd_same V 2 _))
    · intro D V zw1 a hR hI K hK
      obtain ⟨hM1, hB1, hG1⟩ := hI.1
      have ze0 := hR.frame.other (t := 0) (by kernel_rfl) rfl
      rw [if_pos (by rfl)]
      go_simp
      exact hK (.string ⟨s.toArray⟩) _ (hI.next hR (by kernel_rfl) (Mod.refl _ _) (PB.quiet hI.1 (Mod.refl _ _) (HGs.out D 3 zw1 zw1 (hI.1).g (Mod.refl _ _))) (upd_same V 3 _))
    · intro D V zw1 a hR hI K hK
      obtain ⟨hM1, hB1, hG1⟩ := hI.1
      have zd2 := hR.pred 2 (by kernel_rfl)
      have zF2 : V 2 = .slice (some ⟨g, off, none⟩) l.length c := hI.2 2 zd2 rfl
      have zf2 := zF2; clear zF2
      have zd3 := hR.pred 3 (by kernel_rfl)
      have zF3 : V 3 = .string ⟨s.toArray⟩ := hI.2 3 zd3 rfl
      have zf3 := zF3; clear zF3
      have ze7 := hR.frame.done (t := 7) (j := 2) (by kernel_rfl) hR.ok zd2
      have ze8 := hR.frame.done (t := 8) (j := 3) (by kernel_rfl) hR.ok zd3
      rw [if_pos (by rfl)]
      go_simp
      refine (HPC.out zw1 hM1).mono ?_
      rintro e zw2 ⟨rfl, hm2⟩
      exact hK (.int .i64 (q : Int)) _ (hI.next hR (by kernel_rfl) hm2 (PB.quiet hI.1 hm2 (HGs.out D 4 _ _ (hI.1).g hm2)) (upd_same V 4 _))
    · intro D V zw1 a hR hI K hK
      obtain ⟨hM1, hB1, hG1⟩ := hI.1
      have zd1 := hR.pred 1 (by kernel_rfl)
      have zF1 : V 1 = .slice (some ⟨g, off, none⟩) l.length c := hI.2 1 zd1 rfl
      have zf1 := zF1; clear zF1
      have zd4 := hR.pred 4 (by kernel_rfl)
      have zF4 : V 4 = .int .i64 (q : Int) := hI.2 4 zd4 rfl
      have zf4 := zF4; clear zF4
      have ze6 := hR.frame.done (t := 6) (j := 1) (by kernel_rfl) hR.ok zd1
      have ze9 := hR.frame.done (t := 9) (j := 4) (by kernel_rfl) hR.ok zd4
      rw [if_pos (by rfl)]
      go_simp
      exact hK (.pointer (some ⟨g, off + q * 7, none⟩)) _ (hI.next hR (by kernel_rfl) (Mod.refl _ _) (PB.quiet hI.1 (Mod.refl _ _) (HGs.out D 5 zw1 zw1 (hI.1).g (Mod.refl _ _))) (upd_same V 5 _))
    · intro D V zw1 a hR hI K hK
      obtain ⟨hM1, hB1, hG1⟩ := hI.1
      have zd5 := hR.pred 5 (by kernel_rfl)
      have zF5 : V 5 = .pointer (some ⟨g, off + q * 7, none⟩) := hI.2 5 zd5 rfl
      have zf5 := zF5; clear zF5
      have ze10 := hR.frame.done (t := 10) (j := 5) (by kernel_rfl) hR.ok zd5
      obtain ⟨zx0, zx1, zx2, zx3, zx4, zx5, zx6⟩ := HCK.out zw1 hM1
      rw [if_pos (by rfl)]
      go_simp
      exact hK (.agg #[.string ⟨y.id.toArray⟩, .string ⟨y.cust.toArray⟩, .int .i64 y.kind, .string ⟨y.name.toArray⟩, .int .i64 y.tm, .string ⟨y.par.toArray⟩, .string ⟨y.text.toArray⟩]) _ (hI.next hR (by kernel_rfl) (Mod.refl _ _) (PB.quiet hI.1 (Mod.refl _ _) (HGs.out D 6 zw1 zw1 (hI.1).g (Mod.refl _ _))) (upd_same V 6 _))
    · intro D V zw1 a hR hI K hK
      obtain ⟨hM1, hB1, hG1⟩ := hI.1
      have zd0 := hR.pred 0 (by kernel_rfl)
      have zF0 : V 0 = .agg #[vk, vc, .int .i64 f.fr, .int .i64 f.tl, vs] := hI.2 0 zd0 rfl
      have zf0 := zF0; clear zF0
      have zd6 := hR.pred 6 (by kernel_rfl)
      have zF6 : V 6 = .agg #[.string ⟨y.id.toArray⟩, .string ⟨y.cust.toArray⟩, .int .i64 y.kind, .string ⟨y.name.toArray⟩, .int .i64 y.tm, .string ⟨y.par.toArray⟩, .string ⟨y.text.toArray⟩] := hI.2 6 zd6 rfl
      have zf6 := zF6; clear zF6
      have ze5 := hR.frame.done (t := 5) (j := 0) (by kernel_rfl) hR.ok zd0
      have ze11 := hR.frame.done (t := 11) (j := 6) (by kernel_rfl) hR.ok zd6
      rw [if_pos (by rfl)]
      go_simp
      refine (HWL.out zw1 hM1).mono ?_
      rintro e zw2 ⟨rfl, hm2⟩
      exact hK (.int .i64 we) _ (hI.next hR (by kernel_rfl) hm2 (PB.quiet hI.1 hm2 (HGs.out D 7 _ _ (hI.1).g hm2)) (upd_same V 7 _))
    · intro D V zw1 a hR hI K hK
      obtain ⟨hM1, hB1, hG1⟩ := hI.1
      have zd7 := hR.pred 7 (by kernel_rfl)
      have zF7 : V 7 = .int .i64 we := hI.2 7 zd7 rfl
      have zf7 := zF7; clear zF7
      have ze12 := hR.frame.done (t := 12) (j := 7) (by kernel_rfl) hR.ok zd7
      rw [if_pos (by rfl)]
      go_simp
      exact hK (.bool wb) _ (hI.next hR (by kernel_rfl) (Mod.refl _ _) (PB.quiet hI.1 (Mod.refl _ _) (HGs.out D 8 zw1 zw1 (hI.1).g (Mod.refl _ _))) (upd_same V 8 _))
    · intro D V zw1 a hR hI K hK
      obtain ⟨hM1, hB1, hG1⟩ := hI.1
      have zd8 := hR.pred 8 (by kernel_rfl)
      have zF8 : V 8 = .bool wb := hI.2 8 zd8 rfl
      have zf8 := zF8; clear zF8
      have ze13 := hR.frame.done (t := 13) (j := 8) (by kernel_rfl) hR.ok zd8
      rw [if_pos (by rfl)]
      go_simp
      exact hK (.bool wb) _ (hI.next hR (by kernel_rfl) (Mod.refl _ _) (PB.quiet hI.1 (Mod.refl _ _) (HGs.out D 9 zw1 zw1 (hI.1).g (Mod.refl _ _))) (upd_same V 9 _))
  · intro D V w1 hD hI
    obtain ⟨hM1, hB1, hG1⟩ := hI.1
    have hMx := hM1
    clear hM1
    have hBx := hB1
    clear hB1
    have hGx := hG1
    clear hG1
    have zF0 : V 0 = .agg #[vk, vc, .int .i64 f.fr, .int .i64 f.tl, vs] := hI.2 0 (hD 0 (by decide)) rfl
    have zf0 := zF0; clear zF0
    have zF1 : V 1 = .slice (some ⟨g, off, none⟩) l.length c := hI.2 1 (hD 1 (by decide)) rfl
    have zf1 := zF1; clear zF1
    have zF2 : V 2 = .slice (some ⟨g, off, none⟩) l.length c := hI.2 2 (hD 2 (by decide)) rfl
    have zf2 := zF2; clear zF2
    have zF3 : V 3 = .string ⟨s.toArray⟩ := hI.2 3 (hD 3 (by decide)) rfl
    have zf3 := zF3; clear zF3
    have zF4 : V 4 = .int .i64 (q : Int) := hI.2 4 (hD 4 (by decide)) rfl
    have zf4 := zF4; clear zF4
    have zF5 : V 5 = .pointer (some ⟨g, off + q * 7, none⟩) := hI.2 5 (hD 5 (by decide)) rfl
    have zf5 := zF5; clear zF5
    have zF6 : V 6 = .agg #[.string ⟨y.id.toArray⟩, .string ⟨y.cust.toArray⟩, .int .i64 y.kind, .string ⟨y.name.toArray⟩, .int .i64 y.tm, .string ⟨y.par.toArray⟩, .string ⟨y.text.toArray⟩] := hI.2 6 (hD 6 (by decide)) rfl
    have zf6 := zF6; clear zF6
    have zF7 : V 7 = .int .i64 we := hI.2 7 (hD 7 (by decide)) rfl
    have zf7 := zF7; clear zF7
    have zF8 : V 8 = .bool wb := hI.2 8 (hD 8 (by decide)) rfl
    have zf8 := zF8; clear zF8
    have zF9 : V 9 = .bool wb := hI.2 9 (hD 9 (by decide)) rfl
    have zf9 := zF9; clear zF9
    clear hI hD HGs
    simp only [frAll, Act.put, List.setIfInBounds_toArray, List.set_cons_zero, List.set_cons_succ, Nat.zero_add, Nat.reduceAdd, zf0, zf1, zf2, zf3, zf4, zf5, zf6, zf7, zf8, zf9]
    clear zf0 zf1 zf2 zf3 zf4 zf5 zf6 zf7 zf8 zf9
    clear V D
    have HMX := Lib.hid hMx
    clear hMx
    go_wp2_with fail
    go_ret
    refine BoolPost.of ?_ HMX.out
    rw [HKP.out, ← HWB.out]
    rfl
def KoPost (w : World) (f : Flt) (l : List Itm) (e : Ending) (w' : World) : Prop :=
  ∃ (A : Option Addr) (n c : Nat) (A2 : Option Addr) (n2 c2 : Nat), e = .returned (.tuple #[.slice A n c, .slice A2 n2 c2]) ∧ Sl w' 9 1 (.slice A n c) (strsV (kepI f l l.length)) ∧ Sl w' 48 2 (.slice A2 n2 c2) (lftV (lefI f l l.length)) ∧ Pure w w'
def KoR (W3 : World) (base : Nat) (f : Flt) (l : List Itm) (gk : Nat) (x y i : Value) (wr : World) : Prop :=
  ∃ (k : Nat) (ss : List Str) (ls : List Lft) (A : Option Addr) (c : Nat) (A2 : Option Addr) (c2 : Nat), l.length - k = gk ∧ k ≤ l.length ∧ x = .slice A ss.length c ∧ y = .slice A2 ls.length c2 ∧ i = .int .i64 (k : Int) ∧ kepI f l k = ss ∧ lefI f l k = ls ∧ ss.length ≤ k ∧ ls.length ≤ k ∧
    wr.ownsRow base 9 1 (.slice A ss.length c) ss.length (strsV ss) ∧ wr.ownsRow base 48 2 (.slice A2 ls.length c2) ls.length (lftV ls) ∧ Pure W3 wr ∧ base ≤ wr.heap.size

set_option maxRecDepth 100000 in
set_option maxHeartbeats 16000000 in
theorem keepOf_calls (w : World) (v vf : Value) (f : Flt) (l : List Itm) (hv : Its w v l) (hz : ∀ x ∈ l, ItB x) (hkd : ∀ x ∈ l, 1 ≤ x.kind ∧ x.kind ≤ 4) (hR : Right l) (hl : l.length ≤ 12) (hf : FlV w f vf) : Calls Tryz.prog 15 #[v, vf] w (KoPost w f l) := by
  have HFM := Lib.hid (fun W (h : Pure w W) (k : Nat) (hk : k < l.length) => rfamilyOf_calls W v l l[k].id (hv.pure h) hR hl (by rw [idxId_self hR hk]; exact hk) (by simp only [idxId_self hR hk]))
  have HFS := Lib.hid (fun (k : Nat) (hk : k < l.length) s (hs : s ∈ fmB l l[k].id) => fmB_has hR hk hs)
  have HKA := Lib.hid (fun (k : Nat) (hk : k < l.length) => kep_any (f := f) hR hk)
  have HWL := Lib.hid (fun W (h : Pure w W) x (hx : x ∈ l) => whyLeft_calls W x vf f (hf.pure h) (hz x hx) (hkd x hx).1 (hkd x hx).2)
  have HFV := Lib.hid hf
  have HIV := Lib.hid hv
  have HZ := Lib.hid hz
  have HKD := Lib.hid hkd
  obtain ⟨A0, n, c0, rfl, hc1, hc2, hl2, hr⟩ := hv
  have hln : l.length = n := by rw [itV_len] at hl2; omega
  subst hln
  have HRW := Lib.hid hr
  obtain ⟨vk, vc, vs, rfl, _, _, _⟩ := hf
  have HP0 := Lib.hid ((pure_alloc w (.cells #[.slice A0 l.length c0] 26)).trans (pure_alloc (w.alloc (.cells #[.slice A0 l.length c0] 26)) (.cells #[vk, vc, .int .i64 f.fr, .int .i64 f.tl, vs] 33)))
  have HBS := Lib.hid ((Blk.new w 26 #[.slice A0 l.length c0]).alloc (.cells #[vk, vc, .int .i64 f.fr, .int .i64 f.tl, vs] 33))
  have HBF := Lib.hid (Blk.new (w.alloc (.cells #[.slice A0 l.length c0] 26)) 33 #[vk, vc, .int .i64 f.fr, .int .i64 f.tl, vs])
  rw [World.size_alloc] at HBF
  clear hz hkd hR hl2 hr
  go_enter Tryz.func15, Tryz.ntmps15
  go_upto_region 3 with (fail)
  generalize (World.alloc (World.alloc w _) _) = w1 at *
  obtain ⟨gs, hgs⟩ : ∃ gs, gs = w.heap.size := ⟨_, rfl⟩
  rw [← hgs] at HBS HBF ⊢
  obtain ⟨gf, hgf⟩ : ∃ gf, gf = gs + 1 := ⟨_, rfl⟩
  rw [← hgf] at HBF ⊢
  clear hgs hgf
  have HS : Hid (∀ W, Pure w1 W → _) := Lib.hid (fun W (h : Pure w1 W) => HBS.out.modp h)
  have HF : Hid (∀ W, Pure w1 W → _) := Lib.hid (fun W (h : Pure w1 W) => HBF.out.modp h)
  have hB := HBS.out
  clear HBS HBF
  have d0 := hB.cell 0; simp at d0
  clear hB
  go_wp2_with fail
  clear d0
  go_loopg [6, 7, 13] l.length (fun gk x y i wr => KoR w1 w1.heap.size f l gk x y i wr)
  case atStart => exact ⟨0, [], [], none, 0, none, 0, by omega, by omega, rfl, rfl, rfl, by simp [kepI], by simp [lefI], by simp, by simp, World.ownsRow_nil _ _ _ _, World.ownsRow_nil _ _ _ _, Mod.refl _ _, by omega⟩
  case round =>
    obtain ⟨k, ss, ls, A, c, A2, c2, rfl, hk, rfl, rfl, rfl, hki, hli, hsl, hll, own1, own2, hm, hbs⟩ := hrel
    by_cases hlt : k < l.length
    · obtain ⟨g, off, rfl, hrow⟩ := HRW.out (by omega)
      obtain ⟨q0, q1, q2, q3, q4, q5, q6⟩ := item_cells (hrow.mod (HP0.out.trans hm) id) hlt
      have hks := kepI_s (f := f) hlt
      have hls := lefI_s (f := f) hlt
      rw [hki] at hks
      rw [hli] at hls
      have HWX := Lib.hid (fun W (h : Pure w1 W) => HWL.out W (HP0.out.trans h) _ (List.getElem_mem hlt))
      have HFX := Lib.hid (fun W (h : Pure w1 W) => HFM.out W (HP0.out.trans h) k hlt)
      have HFP := Lib.hid (HFS.out k hlt)
      have HKX := Lib.hid (HKA.out k hlt)
      have i1 : (0 : Int) ≤ (k : Int) := by omega
      have i2 : (k : Int) < (l.length : Int) := by omega
      clear hrow hki hli
      generalize l[k] = x at *
      obtain ⟨kb, hkb⟩ : ∃ kb, kepB f l x = kb := ⟨_, rfl⟩
      rw [hkb] at hks hls HKX
      clear hkb
      have hp4 := pure_alloc wr (.cells (itQ x) 71)
      have HM4 := Lib.hid (hm.trans hp4)
      have HO1 := Lib.hid (own_pure own1 hp4)
      have HO2 := Lib.hid (own_pure own2 hp4)
      have hbs4 : w1.heap.size ≤ (wr.alloc (.cells (itQ x) 71)).heap.size := by rw [World.size_alloc]; omega
      have HB4 := Lib.hid (Blk.new wr 71 (itQ x))
      have HKS := Lib.hid hks
      have HLS := Lib.hid hls
      unfold itQ at HM4 HO1 HO2 hbs4 HB4
      unfold itA at HWX
      obtain ⟨we, hwe⟩ : ∃ we, whyE f x (sumS x) = we := ⟨_, rfl⟩
      rw [hwe] at HWX HLS
      clear hks hls hp4 hm own1 own2 hwe
      go_upto_region 6 with (fail)
      generalize (wr.alloc (.cells #[.string ⟨x.id.toArray⟩, .string ⟨x.cust.toArray⟩, .int .i64 x.kind, .string ⟨x.name.toArray⟩, .int .i64 x.tm, .string ⟨x.par.toArray⟩, .string ⟨x.text.toArray⟩] 71)) = w5 at *
      generalize wr.heap.size = gi at *
      have hB4 := HB4.out
      have hS4 := HS.out _ HM4.out
      have HC5 := Lib.hid (HFX.out _ HM4.out)
      have y0 := hB4.cell 0; have y1 := hB4.cell 1; have y2 := hB4.cell 2; have y3 := hB4.cell 3; have y4 := hB4.cell 4; have y5 := hB4.cell 5; have y6 := hB4.cell 6; simp at y0 y1 y2 y3 y4 y5 y6
      have d0 := hS4.cell 0; simp at d0
      clear hB4 hS4 q0 q1 q2 q3 q4 q5 q6
      go_wp2_with fail
      refine HC5.out.mono ?_
      rintro e w6 ⟨A6, n6, c6, rfl, hsl6, m6⟩
      have hm6 := HM4.out.trans m6
      have HCF := Lib.hid (containsS2c_calls w6 _ (fmB l x.id) 65 (.pointer (some ⟨gf, 0, none⟩)) (.pointer (some ⟨gs, 0, none⟩)) (kepP f l) hsl6 (fun s W => enters_of Tryz.func65 (by kernel_rfl) rfl _ W) (fun s W hs hW => by
        obtain ⟨q, hq, hp, he⟩ := HFP.out s hs
        exact keepOf1_calls W gf gs f l vk vc vs _ c0 s (HF.out W (hm6.trans hW)) (HS.out W (hm6.trans hW)) (HIV.out.pure (HP0.out.trans (hm6.trans hW))) HZ.out HKD.out (HFV.out.pure (HP0.out.trans (hm6.trans hW))) q hq hp he))
      rw [HKX.out] at HCF
      have HM6 := Lib.hid hm6
      have HO61 := Lib.hid (own_pure HO1.out m6)
      have HO62 := Lib.hid (own_pure HO2.out m6)
      have HB6 := Lib.hid (HB4.out.modp m6)
      have hb6 : w1.heap.size ≤ w6.heap.size := by have := m6.size; omega
      clear HC5 HFX HM4 HO1 HO2 HB4 m6 hm6 hsl6 hbs4
      have hfld : ∀ (a0 a1 : Value) (W : World), Sem.run Tryz.prog (Instr.field 103 (.agg #[a0, a1]) 1) W = .ok a1 W := fun _ _ _ => rfl
      go_wp2_with fail
      refine HCF.out.mono ?_
      rintro e w7 ⟨rfl, m7⟩
      have hm6 := HM6.out.trans m7
      have own1 := own_pure HO61.out m7
      have own2 := own_pure HO62.out m7
      have hb7 : w1.heap.size ≤ w7.heap.size := by have := m7.size; omega
      have hB6 := HB6.out.modp m7
      clear HCF HM6 HO61 HO62 HB6 m7 y0 y1 y2 y3 y4 y5 y6 d0
      cases kb
      · rw [if_neg (by simp)] at HKS HLS
        have HB6 := Lib.hid hB6
        have HLV := Lib.hid (lftV_snoc ls ⟨x.id, we⟩)
        unfold lftC at HLV
        clear hB6
        obtain ⟨i0, hi0, hz0, hz1, hz2⟩ := info_parts info_lft
        go_wp2_with fail
        have HGs := Lib.hid (show ∀ (D : Nat → Bool) (zzi : Nat) (zq zq' : World), zzi ≠ 8 → (fun D zq => (D 8 = false → (fun Z => Z.ownsRow w1.heap.size 48 2 (.slice A2 ls.length c2) ls.length (lftV ls) ∧ Blk Z gi 71 #[.string ⟨x.id.toArray⟩, .string ⟨x.cust.toArray⟩, .int .i64 x.kind, .string ⟨x.name.toArray⟩, .int .i64 x.tm, .string ⟨x.par.toArray⟩, .string ⟨x.text.toArray⟩]) zq) ∧ (fun Z => w1.heap.size ≤ Z.heap.size ∧ Z.ownsRow w1.heap.size 9 1 (.slice A ss.length c) ss.length (strsV ss)) zq) D zq → Mod (fun _ => False) zq zq' → (fun D zq => (D 8 = false → (fun Z => Z.ownsRow w1.heap.size 48 2 (.slice A2 ls.length c2) ls.length (lftV ls) ∧ Blk Z gi 71 #[.string ⟨x.id.toArray⟩, .string ⟨x.cust.toArray⟩, .int .i64 x.kind, .string ⟨x.name.toArray⟩, .int .i64 x.tm, .string ⟨x.par.toArray⟩, .string ⟨x.text.toArray⟩]) zq) ∧ (fun Z => w1.heap.size ≤ Z.heap.size ∧ Z.ownsRow w1.heap.size 9 1 (.slice A ss.length c) ss.length (strsV ss)) zq) (upd D zzi true) zq' from by intro D zzi zq zq' hi hh hm; refine ⟨fun hs => ?_, ?_⟩; (rw [upd_ne _ _ (Ne.symm hi)] at hs; have h := hh.1 hs; (exact ⟨own_pure h.1 hm, h.2.modp hm⟩)); (have h := hh.2; (exact ⟨Nat.le_trans h.1 hm.size, own_pure h.2 hm⟩)))
        refine wp_region_inv (by kernel_rfl) (by kernel_rfl) (InvF (R := Mod (fun _ => False)) [.is (.slice A2 ls.length c2),
            .is (.pointer (some ⟨gi, 0, none⟩)),
            .is (.string ⟨x.id.toArray⟩),
            .is (.agg #[vk, vc, .int .i64 f.fr, .int .i64 f.tl, vs]),
            .is (.agg #[.string ⟨x.id.toArray⟩, .string ⟨x.cust.toArray⟩, .int .i64 x.kind, .string ⟨x.name.toArray⟩, .int .i64 x.tm, .string ⟨x.par.toArray⟩, .string ⟨x.text.toArray⟩]),
            .is (.int .i64 we),
            .is (.agg #[.string ⟨x.id.toArray⟩, .int .i64 we]),
            ⟨fun zv zw => ∃ (g_7 : Nat), zv = .slice (some ⟨g_7, 0, none⟩) 1 1 ∧ w7.heap.size ≤ g_7 ∧ Blk zw g_7 48 #[.string ⟨x.id.toArray⟩, .int .i64 we], (by rintro zv zw zx ⟨g_7, rfl, c0, q0⟩ hm; exact ⟨g_7, rfl, c0, (q0.modp hm)⟩), none, some 8⟩,
            ⟨fun zv zw => ∃ (g_8 : Nat) (cap_8 : Nat), zv = .slice (some ⟨g_8, 0, none⟩) (ls.length + 1) cap_8 ∧ zw.ownsRow w1.heap.size 48 2 (.slice (some ⟨g_8, 0, none⟩) (ls.length + 1) cap_8) (ls.length + 1) (lftV (ls ++ [⟨x.id, we⟩])), (by rintro zv zw zx ⟨g_8, cap_8, rfl, q0⟩ hm; exact ⟨g_8, cap_8, rfl, (own_pure q0 hm)⟩), none, none⟩,
            ⟨fun zv zw => ∃ (g_9 : Nat) (cap_9 : Nat), zv = .slice (some ⟨g_9, 0, none⟩) (ls.length + 1) cap_9 ∧ zw.ownsRow w1.heap.size 48 2 (.slice (some ⟨g_9, 0, none⟩) (ls.length + 1) cap_9) (ls.length + 1) (lftV (ls ++ [⟨x.id, we⟩])), (by rintro zv zw zx ⟨g_9, cap_9, rfl, q0⟩ hm; exact ⟨g_9, cap_9, rfl, (own_pure q0 hm)⟩), none, none⟩]
            (PB w1 (fun _ => False) w7.heap.size (fun D zq => (D 8 = false → (fun Z => Z.ownsRow w1.heap.size 48 2 (.slice A2 ls.length c2) ls.length (lftV ls) ∧ Blk Z gi 71 #[.string ⟨x.id.toArray⟩, .string ⟨x.cust.toArray⟩, .int .i64 x.kind, .string ⟨x.name.toArray⟩, .int .i64 x.tm, .string ⟨x.par.toArray⟩, .string ⟨x.text.toArray⟩]) zq) ∧ (fun Z => w1.heap.size ≤ Z.heap.size ∧ Z.ownsRow w1.heap.size 9 1 (.slice A ss.length c) ss.length (strsV ss)) zq))) (InvF.start (PB.start hm6 (Nat.le_refl _) (⟨fun _ => ⟨own2.drew, HB6.out.drew⟩, ⟨hb7, own1.drew⟩⟩))) ?_ ?_
        · refine .cons ?_ (.cons ?_ (.cons ?_ (.cons ?_ (.cons ?_ (.cons ?_ (.cons ?_ (.cons ?_ (.cons ?_ (.cons ?_ .nil)))))))))
          · intro D V zw1 a hR hI K hK
            obtain ⟨hM1, hB1, hG1⟩ := hI.1
            obtain ⟨hGK, hG1⟩ := hG1
            obtain ⟨hG1a, hG1b⟩ := hG1
            have ze7 := hR.frame.undone (t := 7) (j := 9) (by kernel_rfl) (hR.later 9 rfl (by kernel_rfl)) rfl
            rw [if_pos (by rfl)]
            go_simp
            exact hK (.slice A2 ls.length c2) _ (hI.next hR (by kernel_rfl) (Mod.refl _ _) (PB.quiet hI.1 (Mod.refl _ _) (HGs.out D 0 zw1 zw1 (by omega) (hI.1).g (Mod.refl _ _))) (upd_same V 0 _))
          · intro D V zw1 a hR hI K hK
            obtain ⟨hM1, hB1, hG1⟩ := hI.1
            obtain ⟨hGK, hG1⟩ := hG1
            obtain ⟨hG1a, hG1b⟩ := hG1
            have ze9 := hR.frame.other (t := 9) (by kernel_rfl) rfl
            rw [if_pos (by rfl)]
            go_simp
            exact hK (.pointer (some ⟨gi, 0, none⟩)) _ (hI.next hR (by kernel_rfl) (Mod.refl _ _) (PB.quiet hI.1 (Mod.refl _ _) (HGs.out D 1 zw1 zw1 (by omega) (hI.1).g (Mod.refl _ _))) (upd_same V 1 _))
          · intro D V zw1 a hR hI K hK
            obtain ⟨hM1, hB1, hG1⟩ := hI.1
            obtain ⟨hGK, hG1⟩ := hG1
            obtain ⟨hG1a, hG1b⟩ := hG1
            have zd1 := hR.pred 1 (by kernel_rfl)
            have zF1 : V 1 = .pointer (some ⟨gi, 0, none⟩) := hI.2 1 zd1 rfl
            have zf1 := zF1; clear zF1
            have ze31 := hR.frame.done (t := 31) (j := 1) (by kernel_rfl) hR.ok zd1
            have hd8 : D 8 = false := by cases hs : D 8 with | false => rfl | true => (have h7 := hR.closed 8 _ 7 rfl (by kernel_rfl) hs; have h6 := hR.closed 7 _ 6 rfl (by kernel_rfl) h7; have h2 := hR.closed 6 _ 2 rfl (by kernel_rfl) h6; rw [hR.not] at h2; cases h2)
            have hBX := (hGK hd8).2
            have zx0 := (hBX).cell 0; have zy0 := (hBX).frozen 0; simp at zx0
            rw [if_pos (by rfl)]
            go_simp
            exact hK (.string ⟨x.id.toArray⟩) _ (hI.next hR (by kernel_rfl) (Mod.refl _ _) (PB.quiet hI.1 (Mod.refl _ _) (HGs.out D 2 zw1 zw1 (by omega) (hI.1).g (Mod.refl _ _))) (upd_same V 2 _))
          · intro D V zw1 a hR hI K hK
            obtain ⟨hM1, hB1, hG1⟩ := hI.1
            obtain ⟨hGK, hG1⟩ := hG1
            obtain ⟨hG1a, hG1b⟩ := hG1
            have ze3 := hR.frame.other (t := 3) (by kernel_rfl) rfl
            have zx0 := (HF.out zw1 hM1).cell 0; have zy0 := (HF.out zw1 hM1).frozen 0; simp at zx0
            have zx1 := (HF.out zw1 hM1).cell 1; have zy1 := (HF.out zw1 hM1).frozen 1; simp at zx1
            have zx2 := (HF.out zw1 hM1).cell 2; have zy2 := (HF.out zw1 hM1).frozen 2; simp at zx2
            have zx3 := (HF.out zw1 hM1).cell 3; have zy3 := (HF.out zw1 hM1).frozen 3; simp at zx3
            have zx4 := (HF.out zw1 hM1).cell 4; have zy4 := (HF.out zw1 hM1).frozen 4; simp at zx4
            rw [if_pos (by rfl)]
            go_simp
            exact hK (.agg #[vk, vc, .int .i64 f.fr, .int .i64 f.tl, vs]) _ (hI.next hR (by kernel_rfl) (Mod.refl _ _) (PB.quiet hI.1 (Mod.refl _ _) (HGs.out D 3 zw1 zw1 (by omega) (hI.1).g (Mod.refl _ _))) (upd_same V 3 _))
          · intro D V zw1 a hR hI K hK
            obtain ⟨hM1, hB1, hG1⟩ := hI.1
            obtain ⟨hGK, hG1⟩ := hG1
            obtain ⟨hG1a, hG1b⟩ := hG1
            have ze9 := hR.frame.other (t := 9) (by kernel_rfl) rfl
            have hd8 : D 8 = false := by cases hs : D 8 with | false => rfl | true => (have h7 := hR.closed 8 _ 7 rfl (by kernel_rfl) hs; have h6 := hR.closed 7 _ 6 rfl (by kernel_rfl) h7; have h5 := hR.closed 6 _ 5 rfl (by kernel_rfl) h6; have h3 := hR.closed 5 _ 4 rfl (by kernel_rfl) h5; rw [hR.not] at h3; cases h3)
            have hBX := (hGK hd8).2
            have zx0 := (hBX).cell 0; have zy0 := (hBX).frozen 0; simp at zx0
            have zx1 := (hBX).cell 1; have zy1 := (hBX).frozen 1; simp at zx1
            have zx2 := (hBX).cell 2; have zy2 := (hBX).frozen 2; simp at zx2
            have zx3 := (hBX).cell 3; have zy3 := (hBX).frozen 3; simp at zx3
            have zx4 := (hBX).cell 4; have zy4 := (hBX).frozen 4; simp at zx4
            have zx5 := (hBX).cell 5; have zy5 := (hBX).frozen 5; simp at zx5
            have zx6 := (hBX).cell 6; have zy6 := (hBX).frozen 6; simp at zx6
            rw [if_pos (by rfl)]
            go_simp
            exact hK (.agg #[.string ⟨x.id.toArray⟩, .string ⟨x.cust.toArray⟩, .int .i64 x.kind, .string ⟨x.name.toArray⟩, .int .i64 x.tm, .string ⟨x.par.toArray⟩, .string ⟨x.text.toArray⟩]) _ (hI.next hR (by kernel_rfl) (Mod.refl _ _) (PB.quiet hI.1 (Mod.refl _ _) (HGs.out D 4 zw1 zw1 (by omega) (hI.1).g (Mod.refl _ _))) (upd_same V 4 _))
          · intro D V zw1 a hR hI K hK
            obtain ⟨hM1, hB1, hG1⟩ := hI.1
            obtain ⟨hGK, hG1⟩ := hG1
            obtain ⟨hG1a, hG1b⟩ := hG1
            have zd3 := hR.pred 3 (by kernel_rfl)
            have zF3 : V 3 = .agg #[vk, vc, .int .i64 f.fr, .int .i64 f.tl, vs] := hI.2 3 zd3 rfl
            have zf3 := zF3; clear zF3
            have zd4 := hR.pred 4 (by kernel_rfl)
            have zF4 : V 4 = .agg #[.string ⟨x.id.toArray⟩, .string ⟨x.cust.toArray⟩, .int .i64 x.kind, .string ⟨x.name.toArray⟩, .int .i64 x.tm, .string ⟨x.par.toArray⟩, .string ⟨x.text.toArray⟩] := hI.2 4 zd4 rfl
            have zf4 := zF4; clear zF4
            have ze33 := hR.frame.done (t := 33) (j := 3) (by kernel_rfl) hR.ok zd3
            have ze34 := hR.frame.done (t := 34) (j := 4) (by kernel_rfl) hR.ok zd4
            rw [if_pos (by rfl)]
            go_simp
            refine (HWX.out zw1 hM1).mono ?_
            rintro e zw2 ⟨rfl, hm2⟩
            exact hK (.int .i64 we) _ (hI.next hR (by kernel_rfl) hm2 (PB.quiet hI.1 hm2 (HGs.out D 5 _ _ (by omega) (hI.1).g hm2)) (upd_same V 5 _))
          · intro D V zw1 a hR hI K hK
            obtain ⟨hM1, hB1, hG1⟩ := hI.1
            obtain ⟨hGK, hG1⟩ := hG1
            obtain ⟨hG1a, hG1b⟩ := hG1
            have zd2 := hR.pred 2 (by kernel_rfl)
            have zF2 : V 2 = .string ⟨x.id.toArray⟩ := hI.2 2 zd2 rfl
            have zf2 := zF2; clear zF2
            have zd5 := hR.pred 5 (by kernel_rfl)
            have zF5 : V 5 = .int .i64 we := hI.2 5 zd5 rfl
            have zf5 := zF5; clear zF5
            have ze32 := hR.frame.done (t := 32) (j := 2) (by kernel_rfl) hR.ok zd2
            have ze35 := hR.frame.done (t := 35) (j := 5) (by kernel_rfl) hR.ok zd5
            rw [if_pos (by rfl)]
            go_simp
            exact hK (_) _ (hI.next hR (by kernel_rfl) (Mod.refl _ _) (PB.quiet hI.1 (Mod.refl _ _) (HGs.out D 6 zw1 zw1 (by omega) (hI.1).g (Mod.refl _ _))) (upd_same V 6 _))
          · intro D V zw1 a hR hI K hK
            obtain ⟨hM1, hB1, hG1⟩ := hI.1
            obtain ⟨hGK, hG1⟩ := hG1
            obtain ⟨hG1a, hG1b⟩ := hG1
            have zd6 := hR.pred 6 (by kernel_rfl)
            have zF6 : V 6 = .agg #[.string ⟨x.id.toArray⟩, .int .i64 we] := hI.2 6 zd6 rfl
            have zf6 := zF6; clear zF6
            have ze36 := hR.frame.done (t := 36) (j := 6) (by kernel_rfl) hR.ok zd6
            rw [if_pos (by rfl)]
            go_simp
            exact hK (_) _ (hI.next hR (by kernel_rfl) ((Mod.refl _ _).alloc _) (PB.quiet hI.1 (pure_alloc _ _) (HGs.out D 7 _ _ (by omega) (hI.1).g ((Mod.refl _ _).alloc _))) (⟨_, upd_same V 7 _, (by omega), (Blk.new _ _ _)⟩))
          · intro D V zw1 a hR hI K hK
            obtain ⟨hM1, hB1, hG1⟩ := hI.1
            obtain ⟨hGK, hG1⟩ := hG1
            obtain ⟨hG1a, hG1b⟩ := hG1
            have zd0 := hR.pred 0 (by kernel_rfl)
            have zF0 : V 0 = .slice A2 ls.length c2 := hI.2 0 zd0 rfl
            have zf0 := zF0; clear zF0
            have zd7 := hR.pred 7 (by kernel_rfl)
            have zF7 : ∃ (g_7 : Nat), V 7 = .slice (some ⟨g_7, 0, none⟩) 1 1 ∧ w7.heap.size ≤ g_7 ∧ Blk zw1 g_7 48 #[.string ⟨x.id.toArray⟩, .int .i64 we] := hI.2 7 zd7 (by show (!D 8) = true; rw [hR.not]; rfl)
            obtain ⟨g_7, zf7, c7_0, b7_0⟩ := zF7
            have ze30 := hR.frame.done (t := 30) (j := 0) (by kernel_rfl) hR.ok zd0
            have ze37 := hR.frame.done (t := 37) (j := 7) (by kernel_rfl) hR.ok zd7
            rw [if_pos (by rfl)]
            have hown := (hGK hR.not).1
            refine wp_append_lies _ (.tmp 30) (.tmp 37) 37 (by rfl) w1.heap.size 48 i0 _ 2 24 Tryz.underlying37 hi0 hz0 hz1 hz2 (by rfl) (by omega) (.slice A2 ls.length c2) (ls.length) (lftV ls) ?_ hown ⟨g_7, 0, none⟩ 1 1 [.string ⟨x.id.toArray⟩, .int .i64 we] ?_ (by rfl) (World.news_of_block (cs := #[.string ⟨x.id.toArray⟩, .int .i64 we]) (t := 48) (fr := (0, 0)) b7_0) (by simp [Value.oneCell']) (by omega) (by simp [maxLen]; omega) (by omega) (by omega) zw1.heap.size rfl ?_
            · show a.tmps.getD 30 undef = _; simp [ze30, zf0]
            · show a.tmps.getD 37 undef = _; simp [ze37, zf7]
            intro g5 cap5 zw2 hown5 hgrow hat hlt5
            have hT := mod_grown hgrow
            have hTb : ∀ j, (.slice A2 ls.length c2 : Value).ownBlock = some j → w1.heap.size ≤ j := own_block hown
            refine hK _ _ (InvF.last (PB.writes hI.1 (fun j hj hl => by have := hTb j hj; omega) hT ⟨fun hs => absurd hs (by rw [upd_same]; decide), ⟨Nat.le_trans hG1a hgrow.size, own_grown hG1b hown (by decide) hgrow⟩⟩) ⟨_, _, upd_same V 8 _, by rw [HLV.out]; exact hown5⟩ ?_)
            intro k hk hDk hlv
            have hkl := hR.lt k hDk
            have hv := hI.2 k hDk (liveB_of hlv)
            match k, hk, hDk, hlv, hkl, hv with
            | 0, _, _, _, _, hv => exact hv
            | 1, _, _, _, _, hv => exact hv
            | 2, _, _, _, _, hv => exact hv
            | 3, _, _, _, _, hv => exact hv
            | 4, _, _, _, _, hv => exact hv
            | 5, _, _, _, _, hv => exact hv
            | 6, _, _, _, _, hv => exact hv
            | 7, _, _, hlv, _, _ => exact absurd hlv (by show ¬ (!upd D 8 true 8) = true; rw [upd_same]; decide)
            | 8, hk, _, _, _, _ => exact absurd rfl hk
            | 9, _, hDk, _, _, _ => exact absurd hDk (by rw [hR.later 9 rfl (by kernel_rfl)]; decide)
            | k + 10, _, _, _, hkl, _ => exact absurd hkl (by simp)
          · intro D V zw1 a hR hI K hK
            obtain ⟨hM1, hB1, hG1⟩ := hI.1
            obtain ⟨hGK, hG1⟩ := hG1
            obtain ⟨hG1a, hG1b⟩ := hG1
            have zd8 := hR.pred 8 (by kernel_rfl)
            have zF8 : ∃ (g_8 : Nat) (cap_8 : Nat), V 8 = .slice (some ⟨g_8, 0, none⟩) (ls.length + 1) cap_8 ∧ zw1.ownsRow w1.heap.size 48 2 (.slice (some ⟨g_8, 0, none⟩) (ls.length + 1) cap_8) (ls.length + 1) (lftV (ls ++ [⟨x.id, we⟩])) := hI.2 8 zd8 rfl
            obtain ⟨g_8, cap_8, zf8, b8_0⟩ := zF8
            have ze38 := hR.frame.done (t := 38) (j := 8) (by kernel_rfl) hR.ok zd8
            rw [if_pos (by rfl)]
            go_simp
            exact hK (.slice (some ⟨g_8, 0, none⟩) (ls.length + 1) cap_8) _ (hI.next hR (by kernel_rfl) (Mod.refl _ _) (PB.quiet hI.1 (Mod.refl _ _) (HGs.out D 9 zw1 zw1 (by omega) (hI.1).g (Mod.refl _ _))) (⟨g_8, cap_8, upd_same V 9 _, b8_0⟩))
        · intro D V w8 hD hI
          obtain ⟨hM1, hB1, hG1⟩ := hI.1
          have hMx := hM1
          clear hM1
          have hBx := hB1
          clear hB1
          have hGx := hG1.2
          clear hG1
          have zF0 : V 0 = .slice A2 ls.length c2 := hI.2 0 (hD 0 (by decide)) rfl
          have zf0 := zF0; clear zF0
          have zF1 : V 1 = .pointer (some ⟨gi, 0, none⟩) := hI.2 1 (hD 1 (by decide)) rfl
          have zf1 := zF1; clear zF1
          have zF2 : V 2 = .string ⟨x.id.toArray⟩ := hI.2 2 (hD 2 (by decide)) rfl
          have zf2 := zF2; clear zF2
          have zF3 : V 3 = .agg #[vk, vc, .int .i64 f.fr, .int .i64 f.tl, vs] := hI.2 3 (hD 3 (by decide)) rfl
          have zf3 := zF3; clear zF3
          have zF4 : V 4 = .agg #[.string ⟨x.id.toArray⟩, .string ⟨x.cust.toArray⟩, .int .i64 x.kind, .string ⟨x.name.toArray⟩, .int .i64 x.tm, .string ⟨x.par.toArray⟩, .string ⟨x.text.toArray⟩] := hI.2 4 (hD 4 (by decide)) rfl
          have zf4 := zF4; clear zF4
          have zF5 : V 5 = .int .i64 we := hI.2 5 (hD 5 (by decide)) rfl
          have zf5 := zF5; clear zF5
          have zF6 : V 6 = .agg #[.string ⟨x.id.toArray⟩, .int .i64 we] := hI.2 6 (hD 6 (by decide)) rfl
          have zf6 := zF6; clear zF6
          have zF8 : ∃ (g_8 : Nat) (cap_8 : Nat), V 8 = .slice (some ⟨g_8, 0, none⟩) (ls.length + 1) cap_8 ∧ w8.ownsRow w1.heap.size 48 2 (.slice (some ⟨g_8, 0, none⟩) (ls.length + 1) cap_8) (ls.length + 1) (lftV (ls ++ [⟨x.id, we⟩])) := hI.2 8 (hD 8 (by decide)) rfl
          obtain ⟨g_8, cap_8, zf8, b8_0⟩ := zF8
          have zF9 : ∃ (g_9 : Nat) (cap_9 : Nat), V 9 = .slice (some ⟨g_9, 0, none⟩) (ls.length + 1) cap_9 ∧ w8.ownsRow w1.heap.size 48 2 (.slice (some ⟨g_9, 0, none⟩) (ls.length + 1) cap_9) (ls.length + 1) (lftV (ls ++ [⟨x.id, we⟩])) := hI.2 9 (hD 9 (by decide)) rfl
          obtain ⟨g_9, cap_9, zf9, b9_0⟩ := zF9
          clear hI hD HGs
          simp only [frAll, Act.put, List.setIfInBounds_toArray, List.set_cons_zero, List.set_cons_succ, Nat.zero_add, Nat.reduceAdd, zf0, zf1, zf2, zf3, zf4, zf5, zf6, zf8, zf9]
          clear zf0 zf1 zf2 zf3 zf4 zf5 zf6 zf8 zf9
          generalize V 7 = u7
          clear V D
          have HO7 := Lib.hid b9_0
          have HO8 := Lib.hid hGx
          have HM7 := Lib.hid hMx
          clear b9_0 hGx hMx HB6 HWX HLV own1 own2
          go_wp2_with fail
          go_roundg (l.length - (k + 1))
          case measure => omega
          case rel => exact ⟨k + 1, ss, ls ++ [⟨x.id, we⟩], A, c, some ⟨g_9, 0, none⟩, cap_9, rfl, by omega, rfl, by simp, by simp, HKS.out, HLS.out, by omega, by simp; omega, HO8.out.2, by simpa using HO7.out, HM7.out, HO8.out.1⟩
      · rw [if_pos rfl] at HKS HLS
        obtain ⟨i0, hi0, hz0, hz1, hz2⟩ := info_parts info_str7
        have y0 := hB6.cell 0; have y1 := hB6.cell 1; have y2 := hB6.cell 2; have y3 := hB6.cell 3; have y4 := hB6.cell 4; have y5 := hB6.cell 5; have y6 := hB6.cell 6; simp at y0 y1 y2 y3 y4 y5 y6
        clear hB6 HWX
        go_wp2_with (at_builtin; refine wpList_append_lies _ rfl _ _ _ rfl w1.heap.size 9 i0 _ 1 16 Tryz.underlying29 hi0 hz0 hz1 hz2 rfl (by omega) (.slice A ss.length c) ss.length (strsV ss) rfl (own1.alloc _) ⟨w7.heap.size, 0, none⟩ 1 1 [.string ⟨x.id.toArray⟩] rfl rfl (World.news_of_block (cs := #[.string ⟨x.id.toArray⟩]) (t := 9) (fr := (0, 0)) (heap_alloc_new w7 _)) (by simp [Value.oneCell']) (by omega) (by simp [maxLen]; omega) (by omega) (by have := hm6.size; simp; omega) (w7.heap.size + 1) (by simp) ?_; intro g5 cap5 w5 hown5 hgrow hat hlt5)
        go_roundg (l.length - (k + 1))
        case measure => omega
        case rel =>
          refine ⟨k + 1, ss ++ [x.id], ls, some ⟨g5, 0, none⟩, cap5, A2, c2, rfl, by omega, by simp, rfl, by simp, HKS.out, HLS.out, by simp; omega, by omega, ?_, own_grown (own_pure own2 (pure_alloc _ _)) (own_pure own1 (pure_alloc _ _)) (by decide) hgrow, (hm6.alloc _).grown hgrow (fun j hj => .inr (by have := own_block own1 j hj; omega)), by have := hgrow.size; simp at this; omega⟩
          simpa [strsV] using hown5
    · obtain rfl : k = l.length := by omega
      have HO1 := Lib.hid (Sl.of_own own1)
      have HO2 := Lib.hid (Sl.of_own own2)
      have HMF := Lib.hid (HP0.out.trans hm)
      have HKI := Lib.hid hki
      have HLI := Lib.hid hli
      clear own1 own2 hm hki hli
      go_wp2_with fail
      refine bodyPost_ret (v := .tuple #[.slice A ss.length c, .slice A2 ls.length c2]) (by simp [results, Tryz.results15, go_sem]) rfl ?_
      exact ⟨A, ss.length, c, A2, ls.length, c2, rfl, by rw [HKI.out]; exact HO1.out, by rw [HLI.out]; exact HO2.out, HMF.out⟩

end Go.Proofs.YtofkkenmkflmiaaGreatDoor

/- The generator of filters: its first draws. -/
namespace Go.Proofs.YtofkkenmkflmiaaGreatDoor
set_option linter.unusedVariables false
set_option linter.unusedSimpArgs false
open Go.RowKit Go.Sort

/-- A short list of kinds, of custodians, in a block that is not b. -/
def KsOk (w : World) (b : Nat) (v : Value) : Prop := ∃ (ks : List Int) (A : Option Addr), ks.length ≤ 2 ∧ v = .slice A ks.length ks.length ∧ (0 < ks.length → ∃ g, A = some ⟨g, 0, none⟩ ∧ g ≠ b ∧ RowAt w 3 g 0 (ints ks))
theorem KsOk.modS {w w' : World} {b : Nat} {v : Value} {S : Nat → Prop} (h : KsOk w b v) (hm : Mod S w w') (hs : ∀ g, g ≠ b → RowAt w 3 g 0 [] → ¬ S g) : KsOk w' b v := by
  obtain ⟨ks, A, h1, h2, h3⟩ := h
  refine ⟨ks, A, h1, h2, fun hn => ?_⟩
  obtain ⟨g, rfl, hg, hr⟩ := h3 hn
  exact ⟨g, rfl, hg, hr.mod hm (hs g hg (by obtain ⟨arr, fr, e1, _⟩ := hr; exact ⟨arr, fr, e1, by simp⟩))⟩
theorem KsOk.mod {w w' : World} {b : Nat} {v : Value} (h : KsOk w b v) (hm : Mod (· = b) w w') : KsOk w' b v := h.modS hm (fun g hg _ => hg)
theorem KsOk.far {w w' : World} {b g : Nat} {v : Value} {t : TypeId} {cs : Array Value} (h : KsOk w b v) (hB : Blk w g t cs) (ht : 3 ≠ t) (hm : Mod (· = g) w w') : KsOk w' b v := h.modS hm (fun g' _ hr => hr.ne hB ht)
theorem KsOk.sl {w : World} {b : Nat} {v : Value} (h : KsOk w b v) : ∃ ks : List Int, ks.length ≤ 2 ∧ Sl w 3 1 v (ints ks) := by
  obtain ⟨ks, A, h1, rfl, h3⟩ := h
  refine ⟨ks, h1, A, _, _, rfl, by omega, by omega, by simp [ints], fun hn => ?_⟩
  obtain ⟨g, rfl, _, hr⟩ := h3 hn
  exact ⟨g, 0, rfl, hr⟩
def CsOk (w : World) (b : Nat) (v : Value) : Prop := ∃ (ks : List Str) (A : Option Addr), ks.length ≤ 2 ∧ (∀ s ∈ ks, s.length ≤ 1000) ∧ v = .slice A ks.length ks.length ∧ (0 < ks.length → ∃ g, A = some ⟨g, 0, none⟩ ∧ g ≠ b ∧ RowAt w 9 g 0 (strsV ks))
theorem CsOk.modS {w w' : World} {b : Nat} {v : Value} {S : Nat → Prop} (h : CsOk w b v) (hm : Mod S w w') (hs : ∀ g, g ≠ b → RowAt w 9 g 0 [] → ¬ S g) : CsOk w' b v := by
  obtain ⟨ks, A, h1, hz, h2, h3⟩ := h
  refine ⟨ks, A, h1, hz, h2, fun hn => ?_⟩
  obtain ⟨g, rfl, hg, hr⟩ := h3 hn
  exact ⟨g, rfl, hg, hr.mod hm (hs g hg (by obtain ⟨arr, fr, e1, _⟩ := hr; exact ⟨arr, fr, e1, by simp⟩))⟩
theorem CsOk.mod {w w' : World} {b : Nat} {v : Value} (h : CsOk w b v) (hm : Mod (· = b) w w') : CsOk w' b v := h.modS hm (fun g hg _ => hg)
theorem CsOk.far {w w' : World} {b g : Nat} {v : Value} {t : TypeId} {cs : Array Value} (h : CsOk w b v) (hB : Blk w g t cs) (ht : 9 ≠ t) (hm : Mod (· = g) w w') : CsOk w' b v := h.modS hm (fun g' _ hr => hr.ne hB ht)
theorem CsOk.sl {w : World} {b : Nat} {v : Value} (h : CsOk w b v) : ∃ ks : List Str, ks.length ≤ 2 ∧ (∀ s ∈ ks, s.length ≤ 1000) ∧ Sl w 9 1 v (strsV ks) := by
  obtain ⟨ks, A, h1, hz, rfl, h3⟩ := h
  refine ⟨ks, h1, hz, A, _, _, rfl, by omega, by omega, by simp [strsV], fun hn => ?_⟩
  obtain ⟨g, rfl, _, hr⟩ := h3 hn
  exact ⟨g, 0, rfl, hr⟩
theorem KsOk.nil (w : World) (b : Nat) : KsOk w b (.slice none 0 0) := ⟨[], none, by simp, rfl, fun h => absurd h (by simp)⟩
theorem CsOk.nil (w : World) (b : Nat) : CsOk w b (.slice none 0 0) := ⟨[], none, by simp, by simp, rfl, fun h => absurd h (by simp)⟩
theorem KsOk.blk {w : World} {b g : Nat} (ks : List Int) (hl : ks.length ≤ 2) (h : Blk w g 3 (ints ks).toArray) (hb : g ≠ b) : KsOk w b (.slice (some ⟨g, 0, none⟩) ks.length ks.length) :=
  ⟨ks, _, hl, rfl, fun _ => ⟨g, rfl, hb, by simpa using h.row0⟩⟩
theorem CsOk.blk {w : World} {b g : Nat} (ss : List Str) (hl : ss.length ≤ 2) (hz : ∀ s ∈ ss, s.length ≤ 1000) (h : Blk w g 9 (strsV ss).toArray) (hb : g ≠ b) : CsOk w b (.slice (some ⟨g, 0, none⟩) ss.length ss.length) :=
  ⟨ss, _, hl, hz, rfl, fun _ => ⟨g, rfl, hb, by simpa using h.row0⟩⟩
/-- A row of n values, each of which is such a list. -/
def KsRow (w : World) (b n g : Nat) : Prop := g ≠ b ∧ ∃ vs : Array Value, vs.size = n ∧ Blk w g 22 vs ∧ ∀ i (h : i < vs.size), KsOk w b vs[i]
def CsRow (w : World) (b n g : Nat) : Prop := g ≠ b ∧ ∃ vs : Array Value, vs.size = n ∧ Blk w g 29 vs ∧ ∀ i (h : i < vs.size), CsOk w b vs[i]
theorem KsRow.mod {w w' : World} {b n g : Nat} (h : KsRow w b n g) (hm : Mod (· = b) w w') : KsRow w' b n g := by
  obtain ⟨h0, vs, h1, h2, h3⟩ := h
  exact ⟨h0, vs, h1, h2.mod hm h0, fun i hi => (h3 i hi).mod hm⟩
theorem CsRow.mod {w w' : World} {b n g : Nat} (h : CsRow w b n g) (hm : Mod (· = b) w w') : CsRow w' b n g := by
  obtain ⟨h0, vs, h1, h2, h3⟩ := h
  exact ⟨h0, vs, h1, h2.mod hm h0, fun i hi => (h3 i hi).mod hm⟩
theorem KsRow.at_ {w : World} {b n g q : Nat} (h : KsRow w b n g) (hq : q < n) : ∃ v, w.cell? ⟨g, q, none⟩ = some v ∧ KsOk w b v := by
  obtain ⟨h0, vs, rfl, h2, h3⟩ := h
  exact ⟨vs[q], by rw [h2.cell q]; simp [hq], h3 q hq⟩
theorem CsRow.at_ {w : World} {b n g q : Nat} (h : CsRow w b n g) (hq : q < n) : ∃ v, w.cell? ⟨g, q, none⟩ = some v ∧ CsOk w b v := by
  obtain ⟨h0, vs, rfl, h2, h3⟩ := h
  exact ⟨vs[q], by rw [h2.cell q]; simp [hq], h3 q hq⟩
theorem KsRow.mk {w : World} {b : Nat} (vs : Array Value) (hb : b < w.heap.size) (h : ∀ v ∈ vs.toList, KsOk w b v) : KsRow (w.alloc (.cells vs 22)) b vs.size w.heap.size :=
  ⟨by omega, vs, rfl, Blk.new _ _ _, fun i hi => (h _ (by simp)).mod ((Mod.refl _ _).alloc _)⟩
theorem CsRow.mk {w : World} {b : Nat} (vs : Array Value) (hb : b < w.heap.size) (h : ∀ v ∈ vs.toList, CsOk w b v) : CsRow (w.alloc (.cells vs 29)) b vs.size w.heap.size :=
  ⟨by omega, vs, rfl, Blk.new _ _ _, fun i hi => (h _ (by simp)).mod ((Mod.refl _ _).alloc _)⟩

theorem KsRow.mk5 {w : World} {b : Nat} {v1 v2 v3 v4 v5 : Value} (hb : b < w.heap.size) (h1 : KsOk w b v1) (h2 : KsOk w b v2) (h3 : KsOk w b v3) (h4 : KsOk w b v4) (h5 : KsOk w b v5) : KsRow (w.alloc (.cells #[v1, v2, v3, v4, v5] 22)) b 5 w.heap.size :=
  KsRow.mk #[v1, v2, v3, v4, v5] hb (fun v hv => by
    simp at hv
    rcases hv with rfl | rfl | rfl | rfl | rfl <;> assumption)
theorem KsRow.mk4 {w : World} {b : Nat} {v1 v2 v3 v4 : Value} (hb : b < w.heap.size) (h1 : KsOk w b v1) (h2 : KsOk w b v2) (h3 : KsOk w b v3) (h4 : KsOk w b v4) : KsRow (w.alloc (.cells #[v1, v2, v3, v4] 22)) b 4 w.heap.size :=
  KsRow.mk #[v1, v2, v3, v4] hb (fun v hv => by
    simp at hv
    rcases hv with rfl | rfl | rfl | rfl <;> assumption)
theorem CsRow.mk3 {w : World} {b : Nat} {v1 v2 v3 : Value} (hb : b < w.heap.size) (h1 : CsOk w b v1) (h2 : CsOk w b v2) (h3 : CsOk w b v3) : CsRow (w.alloc (.cells #[v1, v2, v3] 29)) b 3 w.heap.size :=
  CsRow.mk #[v1, v2, v3] hb (fun v hv => by
    simp at hv
    rcases hv with rfl | rfl | rfl <;> assumption)
/-- The filter's block at first: nothing known. -/
def FilNew (w : World) (b g : Nat) : Prop := g ≠ b ∧ ∃ (vk vc : Value) (fr tl : Int), Blk w g 33 #[vk, vc, .int .i64 fr, .int .i64 tl, .slice none 0 0] ∧ KsOk w b vk ∧ CsOk w b vc
theorem FilNew.mod {w w' : World} {b g : Nat} (h : FilNew w b g) (hm : Mod (· = b) w w') : FilNew w' b g := by
  obtain ⟨h0, vk, vc, fr, tl, h1, h2, h3⟩ := h
  exact ⟨h0, vk, vc, fr, tl, h1.mod hm h0, h2.mod hm, h3.mod hm⟩

end Go.Proofs.YtofkkenmkflmiaaGreatDoor

/- slices.Sort and Compact over strings that the call owns, off a slim laying. -/
namespace Go.Proofs.YtofkkenmkflmiaaGreatDoor
set_option linter.unusedVariables false
set_option linter.unusedSimpArgs false
open Go.RowKit Go.Sort

def SameRowL (w : World) (base : Nat) (v : Value) (ss : List Str) (e : Ending) (w' : World) : Prop :=
  e = .returned (.tuple #[]) ∧ w'.ownsRow base 9 1 v ss.length (strsV ss) ∧ Mod (fun k => v.ownBlock = some k) w w'
theorem grown_modL {w w' : World} {row : Option Nat} (h : w.grownBy w' row) : Mod (fun k => row = some k) w w' :=
  ⟨h.os, h.tape, h.output, h.size, fun k hk hs => h.block k hk (fun x => hs x.symm)⟩
theorem sortS_callsL (w : World) (v : Value) (n base : Nat) (ss : List Str) (hown : w.ownsRow base 9 1 v n (strsV ss)) (hl : ss.length ≤ 1000000) :
    Calls Tryz.prog 38 #[v] w (SameRowL w base v (ss.mergeSort fun x y => decide (x ≤ y))) := by
  have hn : n = ss.length := by have := hown.1; simp [strsV] at this; omega
  subst hn
  rcases hown.2 with ⟨rfl, h0⟩ | ⟨g, cap, cur, rfl, hbase, hb, h1, h2, h3, h4⟩
  · have e : ss = [] := List.eq_nil_of_length_eq_zero h0
    subst e
    refine (Any.slices_Sort_string_none Tryz.lays190 none 0 w).mono ?_
    rintro e w' ⟨rfl, rfl⟩
    exact ⟨rfl, by simpa using hown, Mod.refl _ _⟩
  · refine (Any.slices_Sort_string Tryz.lays190 g 0 cap ss w (holds_of_block hb (by simpa [strsV] using h4)) (lt_of_heap hb) (by omega)).mono ?_
    rintro e w' ⟨rfl, nn, os, rfl⟩
    refine ⟨rfl, ?_, grown_modL (grownBy_sorted _)⟩
    have := ownsRow_sorted (n := nn) (os := os) (ts := ss.mergeSort fun x y => decide (x ≤ y)) (ss := ss) (by simp) hbase hb h1 h2 h3
    simpa [strsV] using this


/-- What Compact hands back. -/
def CompactPostL (w : World) (base g cap : Nat) (ss : List Str) (e : Ending) (w' : World) : Prop :=
  e = .returned (.slice (some ⟨g, 0, none⟩) (Lib.compact ss).length cap) ∧ w'.ownsRow base 9 1 (.slice (some ⟨g, 0, none⟩) (Lib.compact ss).length cap) (Lib.compact ss).length (strsV (Lib.compact ss)) ∧ Mod (fun k => k = g) w w'
theorem own_shrinkL {w : World} {base g cap n m : Nat} {e : TypeId} {xs : List Value} (h : w.ownsRow base e 1 (.slice (some ⟨g, 0, none⟩) n cap) n xs) (hm : m ≤ n) : w.ownsRow base e 1 (.slice (some ⟨g, 0, none⟩) m cap) m (xs.take m) := by
  rcases h.2 with ⟨h0, _⟩ | ⟨g', cap', cur, hv, hbase, hb, h1, h2, h3, h4⟩
  · cases h0
  · cases hv
    have := h.1
    refine ⟨by simp; omega, .inr ⟨g, cap, cur, rfl, hbase, hb, by omega, h2, h3, ?_⟩⟩
    rw [← h4, List.take_take]
    congr 1
    omega
theorem compact_leL (ss : List Str) : (Lib.compact ss).length ≤ ss.length := by
  unfold Lib.compact Lib.compactUpTo
  rw [List.length_map]
  have := List.length_filter_le (Lib.keeps ss.toArray) (List.range ss.length)
  simpa using this
theorem compact_memL (ss : List Str) : ∀ x ∈ Lib.compact ss, x ∈ ss := by
  intro x hx
  unfold Lib.compact Lib.compactUpTo at hx
  simp only [List.mem_map, List.mem_filter, List.mem_range] at hx
  obtain ⟨i, ⟨hi, _⟩, rfl⟩ := hx
  rw [getElem!_pos ss.toArray i (by simpa using hi)]
  simp
theorem compactS_callsL (w : World) (g cap n base : Nat) (ss : List Str) (hown : w.ownsRow base 9 1 (.slice (some ⟨g, 0, none⟩) n cap) n (strsV ss)) (hl : ss.length ≤ 1000000) :
    Calls Tryz.prog 39 #[.slice (some ⟨g, 0, none⟩) n cap] w (CompactPostL w base g cap ss) := by
  have hn : n = ss.length := by have := hown.1; simp [strsV] at this; omega
  subst hn
  rcases hown.2 with ⟨h0, _⟩ | ⟨g', cap', cur, hv, hbase, hb, h1, h2, h3, h4⟩
  · cases h0
  · cases hv
    refine (Any.slices_Compact_string Tryz.lays194 g 0 cap ss w (holds_of_block hb (by simpa [strsV] using h4)) (by omega) h1).mono ?_
    rintro e w' ⟨rfl, nn, rfl⟩
    have e0 : ∀ W : World, W = grow W #[] := fun W => by simp [grow]
    rw [e0 (putRow _ _ _ _ _)]
    have hcl := compact_leL ss
    refine ⟨rfl, ?_, (grown_modL (grownBy_sorted _)).mono (fun k hk => by injection hk with hk; exact hk.symm)⟩
    have h := ownsRow_sorted (n := nn) (os := #[]) (ts := Lib.compact ss ++ List.replicate (ss.length - (Lib.compact ss).length) []) (ss := ss) (by simp; omega) hbase hb h1 h2 h3
    have h2 := own_shrinkL h hcl
    rw [List.map_append, List.take_left' (by simp)] at h2
    exact h2

/-- Compact at any row that the call owns. -/
def CompactAny (w : World) (base : Nat) (A : Option Addr) (n cap : Nat) (ss : List Str) (e : Ending) (w' : World) : Prop :=
  ∃ (A2 : Option Addr) (n2 : Nat) (ss2 : List Str), e = .returned (.slice A2 n2 cap) ∧ w'.ownsRow base 9 1 (.slice A2 n2 cap) n2 (strsV ss2) ∧ Mod (fun k => (Value.slice A n cap).ownBlock = some k) w w' ∧ n2 ≤ n ∧ ss2 = Lib.compact ss
theorem compactA_calls (w : World) (A : Option Addr) (n cap base : Nat) (ss : List Str) (hown : w.ownsRow base 9 1 (.slice A n cap) n (strsV ss)) (hl : ss.length ≤ 1000000) :
    Calls Tryz.prog 39 #[.slice A n cap] w (CompactAny w base A n cap ss) := by
  have hn : n = ss.length := by have := hown.1; simp [strsV] at this; omega
  by_cases h0 : n = 0
  · subst h0
    have e0 : ss = [] := List.eq_nil_of_length_eq_zero hn.symm
    subst e0
    refine (Any.slices_Compact_string_empty Tryz.lays194 A cap w).mono ?_
    rintro e w' ⟨rfl, rfl⟩
    exact ⟨A, 0, [], rfl, hown, Mod.refl _ _, Nat.le_refl _, rfl⟩
  · rcases hown.2 with ⟨_, h1⟩ | ⟨g', cap', cur, hv, _⟩
    · exact absurd h1 h0
    · injection hv with hA _ _
      subst hA
      refine (compactS_callsL w g' cap n base ss hown hl).mono ?_
      rintro e w' ⟨rfl, h2, h3⟩
      exact ⟨_, _, Lib.compact ss, rfl, h2, h3.mono (fun k hk => by subst hk; rfl), by rw [hn]; exact compact_leL ss, rfl⟩

end Go.Proofs.YtofkkenmkflmiaaGreatDoor

/- The generator of filters: what it holds, and its first region. -/
namespace Go.Proofs.YtofkkenmkflmiaaGreatDoor
set_option linter.unusedVariables false
set_option linter.unusedSimpArgs false
open Go.RowKit Go.Sort

theorem FilNew.stored {w : World} {b g : Nat} {a0 a1 a2 a3 a4 v u : Value} {fr tl : Int} (hB : Blk w g 33 #[a0, a1, a2, a3, a4]) (hgb : g ≠ b) (hv : KsOk w b v) (hu : CsOk w b u) :
    FilNew (((((w.setCell ⟨g, 0, none⟩ v).setCell ⟨g, 1, none⟩ u).setCell ⟨g, 2, none⟩ (.int .i64 fr)).setCell ⟨g, 3, none⟩ (.int .i64 tl)).setCell ⟨g, 4, none⟩ (.slice none 0 0)) b g := by
  have hm : Mod (· = g) w (((((w.setCell ⟨g, 0, none⟩ v).setCell ⟨g, 1, none⟩ u).setCell ⟨g, 2, none⟩ (.int .i64 fr)).setCell ⟨g, 3, none⟩ (.int .i64 tl)).setCell ⟨g, 4, none⟩ (.slice none 0 0)) :=
    (((((Mod.refl (· = g) w).setCell (.inl rfl) _).setCell (.inl rfl) _).setCell (.inl rfl) _).setCell (.inl rfl) _).setCell (.inl rfl) _
  exact ⟨hgb, v, u, fr, tl, by have h5 := ((((hB.set 0 v).set 1 u).set 2 (.int .i64 fr)).set 3 (.int .i64 tl)).set 4 (.slice none 0 0); simpa using h5, hv.far hB (by decide) hm, hu.far hB (by decide) hm⟩
theorem KsOk.form {w : World} {b : Nat} {v : Value} (h : KsOk w b v) : ∃ A n, v = .slice A n n := by
  obtain ⟨ks, A, h1, h2, h3⟩ := h
  exact ⟨A, _, h2⟩
theorem CsOk.form {w : World} {b : Nat} {v : Value} (h : CsOk w b v) : ∃ A n, v = .slice A n n := by
  obtain ⟨ks, A, h1, hz, h2, h3⟩ := h
  exact ⟨A, _, h2⟩
/-- A short list of custodians in a block below base that is not b. -/
def CsU (w : World) (b base : Nat) (v : Value) : Prop := ∃ (ks : List Str) (A : Option Addr), ks.length ≤ 2 ∧ (∀ s ∈ ks, s.length ≤ 1000) ∧ v = .slice A ks.length ks.length ∧ (0 < ks.length → ∃ g, A = some ⟨g, 0, none⟩ ∧ g ≠ b ∧ g < base ∧ RowAt w 9 g 0 (strsV ks))
theorem CsOk.low {w : World} {b base : Nat} {v : Value} (h : CsOk w b v) (hb : base = w.heap.size) : CsU w b base v := by
  obtain ⟨ks, A, h1, h2, h3, h4⟩ := h
  refine ⟨ks, A, h1, h2, h3, fun hn => ?_⟩
  obtain ⟨g, e, hg, hr⟩ := h4 hn
  exact ⟨g, e, hg, by have := hr.lt; omega, hr⟩
theorem CsU.modS {w w' : World} {b base : Nat} {v : Value} {S : Nat → Prop} (h : CsU w b base v) (hm : Mod S w w') (hs : ∀ g, g ≠ b → g < base → RowAt w 9 g 0 [] → ¬ S g) : CsU w' b base v := by
  obtain ⟨ks, A, h1, h2, h3, h4⟩ := h
  refine ⟨ks, A, h1, h2, h3, fun hn => ?_⟩
  obtain ⟨g, e, hg, hgb, hr⟩ := h4 hn
  exact ⟨g, e, hg, hgb, hr.mod hm (hs g hg hgb (by obtain ⟨arr, fr, e1, _⟩ := hr; exact ⟨arr, fr, e1, by simp⟩))⟩
theorem CsU.sl {w : World} {b base : Nat} {v : Value} (h : CsU w b base v) : ∃ ks : List Str, ks.length ≤ 2 ∧ (∀ s ∈ ks, s.length ≤ 1000) ∧ Sl w 9 1 v (strsV ks) := by
  obtain ⟨ks, A, h1, hz, rfl, h3⟩ := h
  refine ⟨ks, h1, hz, A, _, _, rfl, by omega, by omega, by simp [strsV], fun hn => ?_⟩
  obtain ⟨g, rfl, _, _, hr⟩ := h3 hn
  exact ⟨g, 0, rfl, hr⟩
abbrev fil0 : Array Value := #[.slice none 0 0, .slice none 0 0, .int .i64 0, .int .i64 0, .slice none 0 0]
/-- The generator's filter under way: u stands in its last field, vs is the row of what is known. -/
def FilQ (W : World) (b g gr base : Nat) (u vs : Value) (n : Nat) (ss : List Str) : Prop :=
  b < gr ∧ gr < g ∧ g < base ∧ base ≤ W.heap.size ∧ ∃ (vk vc : Value) (fr tl : Int), Blk W g 33 #[vk, vc, .int .i64 fr, .int .i64 tl, u] ∧ KsOk W b vk ∧ CsU W b base vc ∧ W.ownsRow base 9 1 vs n (strsV ss) ∧ Blk W gr 33 fil0
section
variable {W W' : World} {b g gr base n n5 : Nat} {u vs v5 : Value} {ss ss5 : List Str}
theorem FilQ.ask (h : FilQ W b g gr base u vs n ss) (hm : Mod (· = b) W W') : FilQ W' b g gr base u vs n ss := by
  obtain ⟨h1, h2, h3, h4, vk, vc, fr, tl, hB, hk, hc, ho, hG⟩ := h
  exact ⟨h1, h2, h3, Nat.le_trans h4 hm.size, vk, vc, fr, tl, hB.mod hm (by omega), hk.mod hm, hc.modS hm (fun g h _ _ => h), own_mod ho hm (fun i hi => by have := own_block ho i hi; omega), hG.mod hm (by omega)⟩
theorem FilQ.rew (h : FilQ W b g gr base u vs n ss) (hm : Mod (fun k => vs.ownBlock = some k) W W') (ho5 : W'.ownsRow base 9 1 v5 n5 (strsV ss5)) : FilQ W' b g gr base u v5 n5 ss5 := by
  obtain ⟨h1, h2, h3, h4, vk, vc, fr, tl, hB, hk, hc, ho, hG⟩ := h
  have hO := own_block ho
  exact ⟨h1, h2, h3, Nat.le_trans h4 hm.size, vk, vc, fr, tl, hB.mod hm (fun h => by have := hO _ h; omega), hk.modS hm (fun i _ hr hi => by obtain ⟨arr, fr, e1, _⟩ := hr; exact absurd (own_ty ho hi e1) (by decide)), hc.modS hm (fun i _ hlt _ hi => by have := hO _ hi; omega), ho5, hG.mod hm (fun h => by have := hO _ h; omega)⟩
theorem FilQ.store (h : FilQ W b g gr base u vs n ss) : FilQ (W.setCell ⟨g, 4, none⟩ vs) b g gr base vs vs n ss := by
  obtain ⟨h1, h2, h3, h4, vk, vc, fr, tl, hB, hk, hc, ho, hG⟩ := h
  have hm : Mod (· = g) W (W.setCell ⟨g, 4, none⟩ vs) := (Mod.refl (· = g) W).setCell (.inl rfl) _
  exact ⟨h1, h2, h3, Nat.le_trans h4 hm.size, vk, vc, fr, tl, by have h5 := hB.set 4 vs; simpa using h5, hk.far hB (by decide) hm, hc.modS hm (fun i _ _ hr => hr.ne hB (by decide)), own_mod ho hm (fun i hi => by have := own_block ho i hi; omega), hG.mod hm (by omega)⟩
theorem FilQ.cell (h : FilQ W b g gr base u vs n ss) : W.cell? ⟨g, 4, none⟩ = some u := by
  obtain ⟨h1, h2, h3, h4, vk, vc, fr, tl, hB, hk, hc, ho, hG⟩ := h
  rw [hB.cell]; rfl
theorem FilQ.frozen (h : FilQ W b g gr base u vs n ss) (i : Nat) : W.frozen? ⟨g, i, none⟩ = false := by
  obtain ⟨h1, h2, h3, h4, vk, vc, fr, tl, hB, hk, hc, ho, hG⟩ := h
  exact hB.frozen i
theorem FilQ.own (h : FilQ W b g gr base u vs n ss) : W.ownsRow base 9 1 vs n (strsV ss) := h.2.2.2.2.choose_spec.choose_spec.choose_spec.choose_spec.2.2.2.1
theorem FilQ.lts (h : FilQ W b g gr base u vs n ss) : b < gr ∧ gr < g ∧ g < base ∧ base ≤ W.heap.size := ⟨h.1, h.2.1, h.2.2.1, h.2.2.2.1⟩
theorem FilNew.start (h : FilNew W b g) (hG : Blk W gr 33 fil0) (h1 : b < gr) (h2 : gr < g) (hb : base = W.heap.size) : FilQ W b g gr base (.slice none 0 0) (.slice none 0 0) 0 [] := by
  obtain ⟨h0, vk, vc, fr, tl, hB, hk, hc⟩ := h
  exact ⟨h1, h2, by have := hB.lt; omega, Nat.le_of_eq hb, vk, vc, fr, tl, hB, hk, hc.low hb, ⟨rfl, .inl ⟨rfl, rfl⟩⟩, hG⟩
/-- The filter at the end. -/
def FilF (W : World) (g gr : Nat) : Prop := gr ≠ g ∧ ∃ (f : Flt) (vk vc vs : Value), Blk W g 33 #[vk, vc, .int .i64 f.fr, .int .i64 f.tl, vs] ∧ Blk W gr 33 fil0 ∧ Sl W 3 1 vk (ints f.kinds) ∧ Sl W 9 1 vc (strsV f.custs) ∧ Sl W 9 1 vs (strsV f.known) ∧ FlB f
theorem sl_far {e t : TypeId} {size : Nat} {v : Value} {xs : List Value} {cs : Array Value} (h : Sl W e size v xs) (hB : Blk W g t cs) (hne : e ≠ t) (hm : Mod (· = g) W W') : Sl W' e size v xs :=
  h.mod hm (fun k arr fr hk e1 => by
    subst e1
    unfold Blk at hB
    rw [hB] at hk
    injection hk with hk
    injection hk with _ h2 _
    exact hne h2.symm)
theorem FilQ.fin (h : FilQ W b g gr base vs vs n ss) (hn : n ≤ 100) (hz : ∀ s ∈ ss, s.length ≤ 1000) : FilF W g gr := by
  obtain ⟨h1, h2, h3, h4, vk, vc, fr, tl, hB, hk, hc, ho, hG⟩ := h
  obtain ⟨ks, k1, k2⟩ := hk.sl
  obtain ⟨cs, c1, c2, c3⟩ := hc.sl
  have hl : ss.length = n := by have := ho.1; simpa [strsV] using this
  exact ⟨by omega, ⟨ks, cs, fr, tl, ss⟩, vk, vc, vs, hB, hG, k2, c3, Sl.of_own ho, by show ks.length ≤ 100; omega, by show cs.length ≤ 100; omega, by show ss.length ≤ 100; omega, c2, hz⟩
theorem FilF.kinds {v : Value} {ks : List Int} (h : FilF W g gr) (hv : Sl W 3 1 v (ints ks)) (hl : ks.length ≤ 100) : FilF (W.setCell ⟨g, 0, none⟩ v) g gr := by
  obtain ⟨h0, f, vk, vc, vs, hB, hG, s1, s2, s3, hf⟩ := h
  have hm : Mod (· = g) W (W.setCell ⟨g, 0, none⟩ v) := (Mod.refl (· = g) W).setCell (.inl rfl) _
  exact ⟨h0, { f with kinds := ks }, v, vc, vs, by have h5 := hB.set 0 v; simpa using h5, hG.mod hm h0, sl_far hv hB (by decide) hm, sl_far s2 hB (by decide) hm, sl_far s3 hB (by decide) hm, hl, hf.2⟩
theorem FilF.custs {v : Value} {ks : List Str} (h : FilF W g gr) (hv : Sl W 9 1 v (strsV ks)) (hl : ks.length ≤ 100) (hz : ∀ s ∈ ks, s.length ≤ 1000) : FilF (W.setCell ⟨g, 1, none⟩ v) g gr := by
  obtain ⟨h0, f, vk, vc, vs, hB, hG, s1, s2, s3, hf⟩ := h
  have hm : Mod (· = g) W (W.setCell ⟨g, 1, none⟩ v) := (Mod.refl (· = g) W).setCell (.inl rfl) _
  exact ⟨h0, { f with custs := ks }, vk, v, vs, by have h5 := hB.set 1 v; simpa using h5, hG.mod hm h0, sl_far s1 hB (by decide) hm, sl_far hv hB (by decide) hm, sl_far s3 hB (by decide) hm, hf.1, hl, hf.2.2.1, hz, hf.2.2.2.2⟩
theorem FilF.win (h : FilF W g gr) (fr tl : Int) : FilF ((W.setCell ⟨g, 2, none⟩ (.int .i64 fr)).setCell ⟨g, 3, none⟩ (.int .i64 tl)) g gr := by
  obtain ⟨h0, f, vk, vc, vs, hB, hG, s1, s2, s3, hf⟩ := h
  have hm : Mod (· = g) W ((W.setCell ⟨g, 2, none⟩ (.int .i64 fr)).setCell ⟨g, 3, none⟩ (.int .i64 tl)) := ((Mod.refl (· = g) W).setCell (.inl rfl) _).setCell (.inl rfl) _
  exact ⟨h0, { f with fr := fr, tl := tl }, vk, vc, vs, by have h5 := (hB.set 2 (.int .i64 fr)).set 3 (.int .i64 tl); simpa using h5, hG.mod hm h0, sl_far s1 hB (by decide) hm, sl_far s2 hB (by decide) hm, sl_far s3 hB (by decide) hm, hf⟩
theorem FilF.blk (h : FilF W g gr) : gr ≠ g ∧ ∃ (f : Flt) (A1 A2 A3 : Option Addr) (n1 c1 n2 c2 n3 c3 : Nat), Blk W g 33 #[.slice A1 n1 c1, .slice A2 n2 c2, .int .i64 f.fr, .int .i64 f.tl, .slice A3 n3 c3] ∧ Blk W gr 33 fil0 ∧ FlB f ∧
    ∀ W', Mod (· = gr) W W' → FlV W' f (.agg #[.slice A1 n1 c1, .slice A2 n2 c2, .int .i64 f.fr, .int .i64 f.tl, .slice A3 n3 c3]) := by
  obtain ⟨h0, f, vk, vc, vs, hB, hG, s1, s2, s3, hf⟩ := h
  obtain ⟨A1, n1, c1, rfl⟩ := s1.form
  obtain ⟨A2, n2, c2, rfl⟩ := s2.form
  obtain ⟨A3, n3, c3, rfl⟩ := s3.form
  exact ⟨h0, f, A1, A2, A3, n1, c1, n2, c2, n3, c3, hB, hG, hf, fun W' hm => ⟨_, _, _, rfl, sl_far s1 hG (by decide) hm, sl_far s2 hG (by decide) hm, sl_far s3 hG (by decide) hm⟩⟩
theorem badKinds (w : World) (b : Nat) (hb : b < w.heap.size) : KsRow (((((w.alloc (.cells #[.int .i64 2, .int .i64 1] 3)).alloc (.cells #[.int .i64 0] 3)).alloc (.cells #[.int .i64 5] 3)).alloc (.cells #[.int .i64 1, .int .i64 1] 3)).alloc (.cells #[.slice (some ⟨w.heap.size, 0, none⟩) 2 2, .slice (some ⟨w.heap.size + 1, 0, none⟩) 1 1, .slice (some ⟨w.heap.size + 1 + 1, 0, none⟩) 1 1, .slice (some ⟨w.heap.size + 1 + 1 + 1, 0, none⟩) 2 2] 22)) b 4 (w.heap.size + 1 + 1 + 1 + 1) := by
  have h := KsRow.mk4 (w := (((w.alloc (.cells #[.int .i64 2, .int .i64 1] 3)).alloc (.cells #[.int .i64 0] 3)).alloc (.cells #[.int .i64 5] 3)).alloc (.cells #[.int .i64 1, .int .i64 1] 3)) (b := b)
    (v1 := .slice (some ⟨w.heap.size, 0, none⟩) 2 2) (v2 := .slice (some ⟨w.heap.size + 1, 0, none⟩) 1 1) (v3 := .slice (some ⟨w.heap.size + 1 + 1, 0, none⟩) 1 1) (v4 := .slice (some ⟨w.heap.size + 1 + 1 + 1, 0, none⟩) 2 2) (by simp; omega)
    (KsOk.blk [2, 1] (by decide) ((((Blk.new _ _ _).alloc _).alloc _).alloc _) (by omega)) (KsOk.blk [0] (by decide) (((Blk.new' (by simp)).alloc _).alloc _) (by omega)) (KsOk.blk [5] (by decide) ((Blk.new' (by simp)).alloc _) (by omega)) (KsOk.blk [1, 1] (by decide) (Blk.new' (by simp)) (by omega))
  simpa using h
theorem badCusts (w : World) (b : Nat) (hb : b < w.heap.size) : CsRow ((((w.alloc (.cells #[.string ⟨#[98]⟩, .string ⟨#[97]⟩] 9)).alloc (.cells #[.string ⟨#[]⟩] 9)).alloc (.cells #[.string ⟨#[65]⟩] 9)).alloc (.cells #[.slice (some ⟨w.heap.size, 0, none⟩) 2 2, .slice (some ⟨w.heap.size + 1, 0, none⟩) 1 1, .slice (some ⟨w.heap.size + 1 + 1, 0, none⟩) 1 1] 29)) b 3 (w.heap.size + 1 + 1 + 1) := by
  have h := CsRow.mk3 (w := ((w.alloc (.cells #[.string ⟨#[98]⟩, .string ⟨#[97]⟩] 9)).alloc (.cells #[.string ⟨#[]⟩] 9)).alloc (.cells #[.string ⟨#[65]⟩] 9)) (b := b)
    (v1 := .slice (some ⟨w.heap.size, 0, none⟩) 2 2) (v2 := .slice (some ⟨w.heap.size + 1, 0, none⟩) 1 1) (v3 := .slice (some ⟨w.heap.size + 1 + 1, 0, none⟩) 1 1) (by simp; omega)
    (CsOk.blk [[98], [97]] (by decide) (by decide) (((Blk.new _ _ _).alloc _).alloc _) (by omega)) (CsOk.blk [[]] (by decide) (by decide) ((Blk.new' (by simp)).alloc _) (by omega)) (CsOk.blk [[65]] (by decide) (by decide) (Blk.new' (by simp)) (by omega))
  simpa using h
end

end Go.Proofs.YtofkkenmkflmiaaGreatDoor

/- The generator of filters. -/
namespace Go.Proofs.YtofkkenmkflmiaaGreatDoor
set_option linter.unusedVariables false
set_option linter.unusedSimpArgs false
open Go.RowKit

def FilPost (w : World) (b N : Nat) (e : Ending) (w' : World) : Prop :=
  ∃ (f : Flt) (vk vc vs : Value), e = .returned (.agg #[vk, vc, .int .i64 f.fr, .int .i64 f.tl, vs]) ∧ FlV w' f (.agg #[vk, vc, .int .i64 f.fr, .int .i64 f.tl, vs]) ∧ FlB f ∧ Strm w' b (N + 300) ∧ Mod (· = b) w w'
theorem digS_lenF (s : Str) : (digS s).length = 16 := by simp [digS, hexR]
theorem repeatC_calls (w : World) (c : UInt8) (n : Nat) (h2 : 2 ≤ n) (hn : n ≤ 100000) : Calls Tryz.prog 40 #[.string ⟨#[c]⟩, .int .i64 (n : Int)] w (fun e w' => ∃ s : Str, s.length = n ∧ e = .returned (.string ⟨s.toArray⟩) ∧ Pure w w') := by
  refine (Any.strings_Repeat_main Tryz.lays105 bldExtra5 ⟨#[c]⟩ n w h2 (by omega) (by simp [ByteArray.size]; omega) (by simp [ByteArray.size])).mono ?_
  rintro e w' ⟨rfl, hb⟩
  refine ⟨Lib.repeatL [c] n, by rw [Lib.repeatL_length]; simp, rfl, Mod.of_below hb⟩
/-- The known list's row has grown, and stands in the field. -/
def FilEx (w : World) (b g gr base n : Nat) (ss : List Str) : Prop := ∃ (g5 c5 : Nat) (s : Str), s.length ≤ 1000 ∧ FilQ w b g gr base (.slice (some ⟨g5, 0, none⟩) (n + 1) c5) (.slice (some ⟨g5, 0, none⟩) (n + 1) c5) (n + 1) (ss ++ [s])
theorem FilEx.ask {w w' : World} {b g gr base n : Nat} {ss : List Str} (h : FilEx w b g gr base n ss) (hm : Mod (· = b) w w') : FilEx w' b g gr base n ss := by
  obtain ⟨g5, c5, s, h1, h2⟩ := h
  exact ⟨g5, c5, s, h1, h2.ask hm⟩
def FlRel (w : World) (b N g gr base r gk : Nat) (i : Value) (wr : World) : Prop :=
  ∃ (k cap : Nat) (n : Nat) (A : Option Addr) (ss : List Str), r - k = gk ∧ k ≤ r ∧ i = .int .i64 (k : Int) ∧ n ≤ k ∧ (∀ s ∈ ss, s.length ≤ 1000) ∧ FilQ wr b g gr base (.slice A n cap) (.slice A n cap) n ss ∧ Strm wr b (N + 6 + k) ∧ Mod (· = b) w wr

set_option maxRecDepth 100000 in
set_option maxHeartbeats 16000000 in
theorem filter_calls (w : World) (b N : Nat) (v : Value) (l : List Itm) (hS : Strm w b N) (hN : N ≤ 600000000) (hv : Its w v l) (hz : ∀ x ∈ l, ItB x) (hkd : ∀ x ∈ l, 1 ≤ x.kind ∧ x.kind ≤ 4) (hl : l.length ≤ 100) : Calls Tryz.prog 8 #[.pointer (some ⟨b, 0, none⟩), v] w (FilPost w b N) := by
  have hbl := hS.lt
  obtain ⟨Al, nl, cl, rfl, hc1, hc2, hl2, hrow⟩ := hv
  have hln : l.length = nl := by rw [itV_len] at hl2; omega
  subst hln
  have HROW := Lib.hid hrow
  have HZ := Lib.hid hz
  have HKD := Lib.hid hkd
  clear hrow hz hkd hl2
  have HG := Lib.hid (Blk.new w 33 fil0)
  have hS1 := hS.alloc (.cells fil0 33)
  have m1 : Mod (· = b) w (w.alloc (.cells fil0 33)) := (Mod.refl _ _).alloc _
  have hW1 : (w.alloc (.cells fil0 33)).heap.size = w.heap.size + 1 := by simp
  unfold fil0 at HG hS1 m1 hW1
  have HNB : Hid (∀ g off xs, RowAt w 71 g off xs → g ≠ b) := Lib.hid (fun g off xs h => by
    obtain ⟨_, _, _, _, hB, _⟩ := hS
    exact h.ne hB (by decide))
  clear hS
  go_enter Tryz.func8, Tryz.ntmps8
  go_upto_region 1 with (fail)
  generalize (w.alloc (.cells #[.slice none 0 0, .slice none 0 0, .int .i64 0, .int .i64 0, .slice none 0 0] 33)) = W1 at *
  generalize hgr : w.heap.size = gr at *
  have hgr1 := Nat.le_of_eq hgr
  have hgr2 := Nat.le_of_eq hgr.symm
  clear hgr
  have HGs := Lib.hid (show ∀ (D : Nat → Bool) (zzi : Nat) (zq zq' : World), (fun _ zq => (fun Z => Blk Z gr 33 #[.slice none 0 0, .slice none 0 0, .int .i64 0, .int .i64 0, .slice none 0 0]) zq) D zq → Mod (· = b) zq zq' → (fun _ zq => (fun Z => Blk Z gr 33 #[.slice none 0 0, .slice none 0 0, .int .i64 0, .int .i64 0, .slice none 0 0]) zq) (upd D zzi true) zq' from by intro D zzi zq zq' h hm; (exact h.modb hm (by omega)))
  refine wp_region_inv (by kernel_rfl) (by kernel_rfl) (InvF (R := Mod (· = b)) [⟨fun zv zw => ∃ (g_0 : Nat), zv = .slice (some ⟨g_0, 0, none⟩) 1 1 ∧ W1.heap.size ≤ g_0 ∧ Blk zw g_0 3 #[(.int .i64 1)], (by rintro zv zw zx ⟨g_0, rfl, c0, q0⟩ hm; exact ⟨g_0, rfl, c0, (q0.modb hm (by omega))⟩), none, some 4⟩,
      ⟨fun zv zw => ∃ (g_1 : Nat), zv = .slice (some ⟨g_1, 0, none⟩) 2 2 ∧ W1.heap.size ≤ g_1 ∧ Blk zw g_1 3 #[(.int .i64 1), (.int .i64 2)], (by rintro zv zw zx ⟨g_1, rfl, c0, q0⟩ hm; exact ⟨g_1, rfl, c0, (q0.modb hm (by omega))⟩), none, some 4⟩,
      ⟨fun zv zw => ∃ (g_2 : Nat), zv = .slice (some ⟨g_2, 0, none⟩) 1 1 ∧ W1.heap.size ≤ g_2 ∧ Blk zw g_2 3 #[(.int .i64 3)], (by rintro zv zw zx ⟨g_2, rfl, c0, q0⟩ hm; exact ⟨g_2, rfl, c0, (q0.modb hm (by omega))⟩), none, some 4⟩,
      ⟨fun zv zw => ∃ (g_3 : Nat), zv = .slice (some ⟨g_3, 0, none⟩) 2 2 ∧ W1.heap.size ≤ g_3 ∧ Blk zw g_3 3 #[(.int .i64 2), (.int .i64 4)], (by rintro zv zw zx ⟨g_3, rfl, c0, q0⟩ hm; exact ⟨g_3, rfl, c0, (q0.modb hm (by omega))⟩), none, some 4⟩,
      ⟨fun zv zw => ∃ (g_4 : Nat), zv = .slice (some ⟨g_4, 0, none⟩) 5 5 ∧ KsRow zw b 5 g_4, (by rintro zv zw zx ⟨g_4, rfl, q0⟩ hm; exact ⟨g_4, rfl, (q0.mod hm)⟩), none, some 7⟩,
      .is (.pointer (some ⟨b, 0, none⟩)),
      .val (fun zv => ∃ (q_6 : Nat), zv = .int .i64 (q_6 : Int) ∧ q_6 < 5),
      ⟨fun zv zw => ∃ (g_7 : Nat) (q_7 : Nat), zv = .pointer (some ⟨g_7, q_7, none⟩) ∧ q_7 < 5 ∧ KsRow zw b 5 g_7, (by rintro zv zw zx ⟨g_7, q_7, rfl, c0, q0⟩ hm; exact ⟨g_7, q_7, rfl, c0, (q0.mod hm)⟩), none, some 8⟩,
      ⟨fun zv zw => ∃ (A_8 : Option Addr) (n_8 : Nat), zv = .slice A_8 n_8 n_8 ∧ KsOk zw b (.slice A_8 n_8 n_8), (by rintro zv zw zx ⟨A_8, n_8, rfl, q0⟩ hm; exact ⟨A_8, n_8, rfl, (q0.mod hm)⟩), none, some 23⟩,
      ⟨fun zv zw => ∃ (g_9 : Nat), zv = .slice (some ⟨g_9, 0, none⟩) 1 1 ∧ W1.heap.size ≤ g_9 ∧ Blk zw g_9 9 #[(.string { data := #[97, 110, 110] })], (by rintro zv zw zx ⟨g_9, rfl, c0, q0⟩ hm; exact ⟨g_9, rfl, c0, (q0.modb hm (by omega))⟩), none, some 11⟩,
      ⟨fun zv zw => ∃ (g_10 : Nat), zv = .slice (some ⟨g_10, 0, none⟩) 2 2 ∧ W1.heap.size ≤ g_10 ∧ Blk zw g_10 9 #[(.string { data := #[97, 110, 110] }), (.string { data := #[99, 105, 100] })], (by rintro zv zw zx ⟨g_10, rfl, c0, q0⟩ hm; exact ⟨g_10, rfl, c0, (q0.modb hm (by omega))⟩), none, some 11⟩,
      ⟨fun zv zw => ∃ (g_11 : Nat), zv = .slice (some ⟨g_11, 0, none⟩) 3 3 ∧ CsRow zw b 3 g_11, (by rintro zv zw zx ⟨g_11, rfl, q0⟩ hm; exact ⟨g_11, rfl, (q0.mod hm)⟩), none, some 14⟩,
      .is (.pointer (some ⟨b, 0, none⟩)),
      .val (fun zv => ∃ (q_13 : Nat), zv = .int .i64 (q_13 : Int) ∧ q_13 < 3),
      ⟨fun zv zw => ∃ (g_14 : Nat) (q_14 : Nat), zv = .pointer (some ⟨g_14, q_14, none⟩) ∧ q_14 < 3 ∧ CsRow zw b 3 g_14, (by rintro zv zw zx ⟨g_14, q_14, rfl, c0, q0⟩ hm; exact ⟨g_14, q_14, rfl, c0, (q0.mod hm)⟩), none, some 15⟩,
      ⟨fun zv zw => ∃ (A_15 : Option Addr) (n_15 : Nat), zv = .slice A_15 n_15 n_15 ∧ CsOk zw b (.slice A_15 n_15 n_15), (by rintro zv zw zx ⟨A_15, n_15, rfl, q0⟩ hm; exact ⟨A_15, n_15, rfl, (q0.mod hm)⟩), none, some 23⟩,
      .is (.pointer (some ⟨b, 0, none⟩)),
      ⟨fun zv zw => ∃ (g_17 : Nat), zv = .slice (some ⟨g_17, 0, none⟩) 4 4 ∧ W1.heap.size ≤ g_17 ∧ Blk zw g_17 3 #[(.int .i64 0), (.int .i64 0), (.int .i64 50), (.int .i64 1440)], (by rintro zv zw zx ⟨g_17, rfl, c0, q0⟩ hm; exact ⟨g_17, rfl, c0, (q0.modb hm (by omega))⟩), none, some 18⟩,
      .val (fun zv => ∃ (k_18 : Int), zv = .int .i64 k_18 ∧ 0 ≤ k_18 ∧ k_18 ≤ 1440),
      .is (.pointer (some ⟨b, 0, none⟩)),
      ⟨fun zv zw => ∃ (g_20 : Nat), zv = .slice (some ⟨g_20, 0, none⟩) 3 3 ∧ W1.heap.size ≤ g_20 ∧ Blk zw g_20 3 #[(.int .i64 5761440), (.int .i64 5761440), (.int .i64 5000)], (by rintro zv zw zx ⟨g_20, rfl, c0, q0⟩ hm; exact ⟨g_20, rfl, c0, (q0.modb hm (by omega))⟩), none, some 21⟩,
      .val (fun zv => ∃ (k_21 : Int), zv = .int .i64 k_21 ∧ 5000 ≤ k_21 ∧ k_21 ≤ 5761440),
      .val (fun zv => ∃ (k_22 : Int) (ka_22 : Int), zv = .agg #[.int .i64 k_22, .int .i64 ka_22] ∧ 0 ≤ k_22 ∧ k_22 ≤ 1440 ∧ 5000 ≤ ka_22 ∧ ka_22 ≤ 5761440),
      ⟨fun zv zw => ∃ (A_23 : Option Addr) (n_23 : Nat) (B_23 : Option Addr) (m_23 : Nat) (fr_23 : Int) (tl_23 : Int), zv = .agg #[.slice A_23 n_23 n_23, .slice B_23 m_23 m_23, .int .i64 fr_23, .int .i64 tl_23, .slice none 0 0] ∧ KsOk zw b (.slice A_23 n_23 n_23) ∧ CsOk zw b (.slice B_23 m_23 m_23), (by rintro zv zw zx ⟨A_23, n_23, B_23, m_23, fr_23, tl_23, rfl, q0, q1⟩ hm; exact ⟨A_23, n_23, B_23, m_23, fr_23, tl_23, rfl, (q0.mod hm), (q1.mod hm)⟩), none, some 25⟩,
      ⟨fun zv zw => ∃ (g_24 : Nat), zv = .pointer (some ⟨g_24, 0, none⟩) ∧ W1.heap.size ≤ g_24 ∧ Blk zw g_24 33 #[.slice none 0 0, .slice none 0 0, .int .i64 0, .int .i64 0, .slice none 0 0], (by rintro zv zw zx ⟨g_24, rfl, c0, q0⟩ hm; exact ⟨g_24, rfl, c0, (q0.modb hm (by omega))⟩), none, some 25⟩,
      ⟨fun zv zw => ∃ (g_25 : Nat), zv = .pointer (some ⟨g_25, 0, none⟩) ∧ W1.heap.size ≤ g_25 ∧ FilNew zw b g_25, (by rintro zv zw zx ⟨g_25, rfl, c0, q0⟩ hm; exact ⟨g_25, rfl, c0, (q0.mod hm)⟩), some 24, none⟩]
      (GB w (· = b) W1.heap.size b (N) (fun D => (D 6).toNat + (D 13).toNat + (D 18).toNat + (D 21).toNat) (fun _ zq => (fun Z => Blk Z gr 33 #[.slice none 0 0, .slice none 0 0, .int .i64 0, .int .i64 0, .slice none 0 0]) zq))) (InvF.start (GB.start hS1 m1 (Nat.le_refl _) (HG.out.drew))) ?_ ?_
  · refine .cons ?_ (.cons ?_ (.cons ?_ (.cons ?_ (.cons ?_ (.cons ?_ (.cons ?_ (.cons ?_ (.cons ?_ (.cons ?_ (.cons ?_ (.cons ?_ (.cons ?_ (.cons ?_ (.cons ?_ (.cons ?_ (.cons ?_ (.cons ?_ (.cons ?_ (.cons ?_ (.cons ?_ (.cons ?_ (.cons ?_ (.cons ?_ (.cons ?_ (.cons ?_ .nil)))))))))))))))))))))))))
    · intro D V zw1 a hR hI K hK
      obtain ⟨hS1, hM1, hB1, hG1⟩ := hI.1
      rw [if_pos (by rfl)]
      go_simp
      exact hK (_) _ (hI.next hR (by kernel_rfl) ((Mod.refl _ _).alloc _) (GB.quiet hI.1 (pure_alloc _ _) (by have hn := hR.not; simp [upd, hn] <;> omega) (HGs.out D 0 _ _ (hI.1).g ((Mod.refl _ _).alloc _))) (⟨_, upd_same V 0 _, (by omega), (Blk.new _ _ _)⟩))
    · intro D V zw1 a hR hI K hK
      obtain ⟨hS1, hM1, hB1, hG1⟩ := hI.1
      rw [if_pos (by rfl)]
      go_simp
      exact hK (_) _ (hI.next hR (by kernel_rfl) ((Mod.refl _ _).alloc _) (GB.quiet hI.1 (pure_alloc _ _) (by have hn := hR.not; simp [upd, hn] <;> omega) (HGs.out D 1 _ _ (hI.1).g ((Mod.refl _ _).alloc _))) (⟨_, upd_same V 1 _, (by omega), (Blk.new _ _ _)⟩))
    · intro D V zw1 a hR hI K hK
      obtain ⟨hS1, hM1, hB1, hG1⟩ := hI.1
      rw [if_pos (by rfl)]
      go_simp
      exact hK (_) _ (hI.next hR (by kernel_rfl) ((Mod.refl _ _).alloc _) (GB.quiet hI.1 (pure_alloc _ _) (by have hn := hR.not; simp [upd, hn] <;> omega) (HGs.out D 2 _ _ (hI.1).g ((Mod.refl _ _).alloc _))) (⟨_, upd_same V 2 _, (by omega), (Blk.new _ _ _)⟩))
    · intro D V zw1 a hR hI K hK
      obtain ⟨hS1, hM1, hB1, hG1⟩ := hI.1
      rw [if_pos (by rfl)]
      go_simp
      exact hK (_) _ (hI.next hR (by kernel_rfl) ((Mod.refl _ _).alloc _) (GB.quiet hI.1 (pure_alloc _ _) (by have hn := hR.not; simp [upd, hn] <;> omega) (HGs.out D 3 _ _ (hI.1).g ((Mod.refl _ _).alloc _))) (⟨_, upd_same V 3 _, (by omega), (Blk.new _ _ _)⟩))
    · intro D V zw1 a hR hI K hK
      obtain ⟨hS1, hM1, hB1, hG1⟩ := hI.1
      have zd0 := hR.pred 0 (by kernel_rfl)
      have zF0 : ∃ (g_0 : Nat), V 0 = .slice (some ⟨g_0, 0, none⟩) 1 1 ∧ W1.heap.size ≤ g_0 ∧ Blk zw1 g_0 3 #[(.int .i64 1)] := hI.2 0 zd0 (by show (!D 4) = true; rw [hR.not]; rfl)
      obtain ⟨g_0, zf0, c0_0, b0_0⟩ := zF0
      have zd1 := hR.pred 1 (by kernel_rfl)
      have zF1 : ∃ (g_1 : Nat), V 1 = .slice (some ⟨g_1, 0, none⟩) 2 2 ∧ W1.heap.size ≤ g_1 ∧ Blk zw1 g_1 3 #[(.int .i64 1), (.int .i64 2)] := hI.2 1 zd1 (by show (!D 4) = true; rw [hR.not]; rfl)
      obtain ⟨g_1, zf1, c1_0, b1_0⟩ := zF1
      have zd2 := hR.pred 2 (by kernel_rfl)
      have zF2 : ∃ (g_2 : Nat), V 2 = .slice (some ⟨g_2, 0, none⟩) 1 1 ∧ W1.heap.size ≤ g_2 ∧ Blk zw1 g_2 3 #[(.int .i64 3)] := hI.2 2 zd2 (by show (!D 4) = true; rw [hR.not]; rfl)
      obtain ⟨g_2, zf2, c2_0, b2_0⟩ := zF2
      have zd3 := hR.pred 3 (by kernel_rfl)
      have zF3 : ∃ (g_3 : Nat), V 3 = .slice (some ⟨g_3, 0, none⟩) 2 2 ∧ W1.heap.size ≤ g_3 ∧ Blk zw1 g_3 3 #[(.int .i64 2), (.int .i64 4)] := hI.2 3 zd3 (by show (!D 4) = true; rw [hR.not]; rfl)
      obtain ⟨g_3, zf3, c3_0, b3_0⟩ := zF3
      have ze6 := hR.frame.done (t := 6) (j := 0) (by kernel_rfl) hR.ok zd0
      have ze7 := hR.frame.done (t := 7) (j := 1) (by kernel_rfl) hR.ok zd1
      have ze8 := hR.frame.done (t := 8) (j := 2) (by kernel_rfl) hR.ok zd2
      have ze9 := hR.frame.done (t := 9) (j := 3) (by kernel_rfl) hR.ok zd3
      rw [if_pos (by rfl)]
      go_simp
      exact hK (_) _ (hI.next hR (by kernel_rfl) ((Mod.refl _ _).alloc _) (GB.quiet hI.1 (pure_alloc _ _) (by have hn := hR.not; simp [upd, hn] <;> omega) (HGs.out D 4 _ _ (hI.1).g ((Mod.refl _ _).alloc _))) (⟨_, upd_same V 4 _, (KsRow.mk5 (by omega) (KsOk.nil _ _) (KsOk.blk [1] (by decide) b0_0 (by omega)) (KsOk.blk [1, 2] (by decide) b1_0 (by omega)) (KsOk.blk [3] (by decide) b2_0 (by omega)) (KsOk.blk [2, 4] (by decide) b3_0 (by omega)))⟩))
    · intro D V zw1 a hR hI K hK
      obtain ⟨hS1, hM1, hB1, hG1⟩ := hI.1
      have ze0 := hR.frame.other (t := 0) (by kernel_rfl) rfl
      rw [if_pos (by rfl)]
      go_simp
      exact hK (.pointer (some ⟨b, 0, none⟩)) _ (hI.next hR (by kernel_rfl) (Mod.refl _ _) (GB.quiet hI.1 (Mod.refl _ _) (by have hn := hR.not; simp [upd, hn] <;> omega) (HGs.out D 5 zw1 zw1 (hI.1).g (Mod.refl _ _))) (upd_same V 5 _))
    · intro D V zw1 a hR hI K hK
      obtain ⟨hS1, hM1, hB1, hG1⟩ := hI.1
      have zd5 := hR.pred 5 (by kernel_rfl)
      have zF5 : V 5 = .pointer (some ⟨b, 0, none⟩) := hI.2 5 zd5 rfl
      have zf5 := zF5; clear zF5
      have ze11 := hR.frame.done (t := 11) (j := 5) (by kernel_rfl) hR.ok zd5
      rw [if_pos (by rfl)]
      have := Bool.toNat_le (D 6)
      have := Bool.toNat_le (D 13)
      have := Bool.toNat_le (D 18)
      have := Bool.toNat_le (D 21)
      have hNB : N + ((D 6).toNat + (D 13).toNat + (D 18).toNat + (D 21).toNat) ≤ 1000000000 := by omega
      skip
      go_simp
      refine (next_calls _ _ _ _ hS1 hNB (by omega) (by omega)).mono ?_
      rintro e zw2 ⟨k_0, hk1, hk2, rfl, hS2, hm2⟩
      obtain ⟨q_0, rfl⟩ := Int.eq_ofNat_of_zero_le hk1
      exact hK (.int .i64 (q_0 : Int)) _ (hI.next hR (by kernel_rfl) hm2 (GB.asks hI.1 (fun _ h _ => h) hS2 hm2 (by have hn := hR.not; simp [upd, hn] <;> omega) (HGs.out D 6 _ _ (hI.1).g hm2)) (⟨q_0, upd_same V 6 _, (by first | assumption | omega)⟩))
    · intro D V zw1 a hR hI K hK
      obtain ⟨hS1, hM1, hB1, hG1⟩ := hI.1
      have zd4 := hR.pred 4 (by kernel_rfl)
      have zF4 : ∃ (g_4 : Nat), V 4 = .slice (some ⟨g_4, 0, none⟩) 5 5 ∧ KsRow zw1 b 5 g_4 := hI.2 4 zd4 (by show (!D 7) = true; rw [hR.not]; rfl)
      obtain ⟨g_4, zf4, b4_0⟩ := zF4
      have zd6 := hR.pred 6 (by kernel_rfl)
      have zF6 : ∃ (q_6 : Nat), V 6 = .int .i64 (q_6 : Int) ∧ q_6 < 5 := hI.2 6 zd6 rfl
      obtain ⟨q_6, zf6, c6_0⟩ := zF6
      have ze10 := hR.frame.done (t := 10) (j := 4) (by kernel_rfl) hR.ok zd4
      have ze12 := hR.frame.done (t := 12) (j := 6) (by kernel_rfl) hR.ok zd6
      have zb : (q_6 : Int) < 5 := by omega
      rw [if_pos (by rfl)]
      go_simp
      exact hK (_) _ (hI.next hR (by kernel_rfl) (Mod.refl _ _) (GB.quiet hI.1 (Mod.refl _ _) (by have hn := hR.not; simp [upd, hn] <;> omega) (HGs.out D 7 zw1 zw1 (hI.1).g (Mod.refl _ _))) (⟨g_4, q_6, upd_same V 7 _, c6_0, b4_0⟩))
    · intro D V zw1 a hR hI K hK
      obtain ⟨hS1, hM1, hB1, hG1⟩ := hI.1
      have zd7 := hR.pred 7 (by kernel_rfl)
      have zF7 : ∃ (g_7 : Nat) (q_7 : Nat), V 7 = .pointer (some ⟨g_7, q_7, none⟩) ∧ q_7 < 5 ∧ KsRow zw1 b 5 g_7 := hI.2 7 zd7 (by show (!D 8) = true; rw [hR.not]; rfl)
      obtain ⟨g_7, q_7, zf7, c7_0, b7_0⟩ := zF7
      have ze13 := hR.frame.done (t := 13) (j := 7) (by kernel_rfl) hR.ok zd7
      obtain ⟨v0, hv0, hk0⟩ := b7_0.at_ c7_0
      obtain ⟨A0, n0, rfl⟩ := hk0.form
      rw [if_pos (by rfl)]
      go_simp
      exact hK (_) _ (hI.next hR (by kernel_rfl) (Mod.refl _ _) (GB.quiet hI.1 (Mod.refl _ _) (by have hn := hR.not; simp [upd, hn] <;> omega) (HGs.out D 8 zw1 zw1 (hI.1).g (Mod.refl _ _))) (⟨A0, n0, upd_same V 8 _, hk0⟩))
    · intro D V zw1 a hR hI K hK
      obtain ⟨hS1, hM1, hB1, hG1⟩ := hI.1
      rw [if_pos (by rfl)]
      go_simp
      exact hK (_) _ (hI.next hR (by kernel_rfl) ((Mod.refl _ _).alloc _) (GB.quiet hI.1 (pure_alloc _ _) (by have hn := hR.not; simp [upd, hn] <;> omega) (HGs.out D 9 _ _ (hI.1).g ((Mod.refl _ _).alloc _))) (⟨_, upd_same V 9 _, (by omega), (Blk.new _ _ _)⟩))
    · intro D V zw1 a hR hI K hK
      obtain ⟨hS1, hM1, hB1, hG1⟩ := hI.1
      rw [if_pos (by rfl)]
      go_simp
      exact hK (_) _ (hI.next hR (by kernel_rfl) ((Mod.refl _ _).alloc _) (GB.quiet hI.1 (pure_alloc _ _) (by have hn := hR.not; simp [upd, hn] <;> omega) (HGs.out D 10 _ _ (hI.1).g ((Mod.refl _ _).alloc _))) (⟨_, upd_same V 10 _, (by omega), (Blk.new _ _ _)⟩))
    · intro D V zw1 a hR hI K hK
      obtain ⟨hS1, hM1, hB1, hG1⟩ := hI.1
      have zd9 := hR.pred 9 (by kernel_rfl)
      have zF9 : ∃ (g_9 : Nat), V 9 = .slice (some ⟨g_9, 0, none⟩) 1 1 ∧ W1.heap.size ≤ g_9 ∧ Blk zw1 g_9 9 #[(.string { data := #[97, 110, 110] })] := hI.2 9 zd9 (by show (!D 11) = true; rw [hR.not]; rfl)
      obtain ⟨g_9, zf9, c9_0, b9_0⟩ := zF9
      have zd10 := hR.pred 10 (by kernel_rfl)
      have zF10 : ∃ (g_10 : Nat), V 10 = .slice (some ⟨g_10, 0, none⟩) 2 2 ∧ W1.heap.size ≤ g_10 ∧ Blk zw1 g_10 9 #[(.string { data := #[97, 110, 110] }), (.string { data := #[99, 105, 100] })] := hI.2 10 zd10 (by show (!D 11) = true; rw [hR.not]; rfl)
      obtain ⟨g_10, zf10, c10_0, b10_0⟩ := zF10
      have ze15 := hR.frame.done (t := 15) (j := 9) (by kernel_rfl) hR.ok zd9
      have ze16 := hR.frame.done (t := 16) (j := 10) (by kernel_rfl) hR.ok zd10
      rw [if_pos (by rfl)]
      go_simp
      exact hK (_) _ (hI.next hR (by kernel_rfl) ((Mod.refl _ _).alloc _) (GB.quiet hI.1 (pure_alloc _ _) (by have hn := hR.not; simp [upd, hn] <;> omega) (HGs.out D 11 _ _ (hI.1).g ((Mod.refl _ _).alloc _))) (⟨_, upd_same V 11 _, (CsRow.mk3 (by omega) (CsOk.nil _ _) (CsOk.blk [[97, 110, 110]] (by decide) (by decide) b9_0 (by omega)) (CsOk.blk [[97, 110, 110], [99, 105, 100]] (by decide) (by decide) b10_0 (by omega)))⟩))
    · intro D V zw1 a hR hI K hK
      obtain ⟨hS1, hM1, hB1, hG1⟩ := hI.1
      have ze0 := hR.frame.other (t := 0) (by kernel_rfl) rfl
      rw [if_pos (by rfl)]
      go_simp
      exact hK (.pointer (some ⟨b, 0, none⟩)) _ (hI.next hR (by kernel_rfl) (Mod.refl _ _) (GB.quiet hI.1 (Mod.refl _ _) (by have hn := hR.not; simp [upd, hn] <;> omega) (HGs.out D 12 zw1 zw1 (hI.1).g (Mod.refl _ _))) (upd_same V 12 _))
    · intro D V zw1 a hR hI K hK
      obtain ⟨hS1, hM1, hB1, hG1⟩ := hI.1
      have zd12 := hR.pred 12 (by kernel_rfl)
      have zF12 : V 12 = .pointer (some ⟨b, 0, none⟩) := hI.2 12 zd12 rfl
      have zf12 := zF12; clear zF12
      have ze18 := hR.frame.done (t := 18) (j := 12) (by kernel_rfl) hR.ok zd12
      rw [if_pos (by rfl)]
      have := Bool.toNat_le (D 6)
      have := Bool.toNat_le (D 13)
      have := Bool.toNat_le (D 18)
      have := Bool.toNat_le (D 21)
      have hNB : N + ((D 6).toNat + (D 13).toNat + (D 18).toNat + (D 21).toNat) ≤ 1000000000 := by omega
      skip
      go_simp
      refine (next_calls _ _ _ _ hS1 hNB (by omega) (by omega)).mono ?_
      rintro e zw2 ⟨k_0, hk1, hk2, rfl, hS2, hm2⟩
      obtain ⟨q_0, rfl⟩ := Int.eq_ofNat_of_zero_le hk1
      exact hK (.int .i64 (q_0 : Int)) _ (hI.next hR (by kernel_rfl) hm2 (GB.asks hI.1 (fun _ h _ => h) hS2 hm2 (by have hn := hR.not; simp [upd, hn] <;> omega) (HGs.out D 13 _ _ (hI.1).g hm2)) (⟨q_0, upd_same V 13 _, (by first | assumption | omega)⟩))
    · intro D V zw1 a hR hI K hK
      obtain ⟨hS1, hM1, hB1, hG1⟩ := hI.1
      have zd11 := hR.pred 11 (by kernel_rfl)
      have zF11 : ∃ (g_11 : Nat), V 11 = .slice (some ⟨g_11, 0, none⟩) 3 3 ∧ CsRow zw1 b 3 g_11 := hI.2 11 zd11 (by show (!D 14) = true; rw [hR.not]; rfl)
      obtain ⟨g_11, zf11, b11_0⟩ := zF11
      have zd13 := hR.pred 13 (by kernel_rfl)
      have zF13 : ∃ (q_13 : Nat), V 13 = .int .i64 (q_13 : Int) ∧ q_13 < 3 := hI.2 13 zd13 rfl
      obtain ⟨q_13, zf13, c13_0⟩ := zF13
      have ze17 := hR.frame.done (t := 17) (j := 11) (by kernel_rfl) hR.ok zd11
      have ze19 := hR.frame.done (t := 19) (j := 13) (by kernel_rfl) hR.ok zd13
      have zb : (q_13 : Int) < 3 := by omega
      rw [if_pos (by rfl)]
      go_simp
      exact hK (_) _ (hI.next hR (by kernel_rfl) (Mod.refl _ _) (GB.quiet hI.1 (Mod.refl _ _) (by have hn := hR.not; simp [upd, hn] <;> omega) (HGs.out D 14 zw1 zw1 (hI.1).g (Mod.refl _ _))) (⟨g_11, q_13, upd_same V 14 _, c13_0, b11_0⟩))
    · intro D V zw1 a hR hI K hK
      obtain ⟨hS1, hM1, hB1, hG1⟩ := hI.1
      have zd14 := hR.pred 14 (by kernel_rfl)
      have zF14 : ∃ (g_14 : Nat) (q_14 : Nat), V 14 = .pointer (some ⟨g_14, q_14, none⟩) ∧ q_14 < 3 ∧ CsRow zw1 b 3 g_14 := hI.2 14 zd14 (by show (!D 15) = true; rw [hR.not]; rfl)
      obtain ⟨g_14, q_14, zf14, c14_0, b14_0⟩ := zF14
      have ze20 := hR.frame.done (t := 20) (j := 14) (by kernel_rfl) hR.ok zd14
      obtain ⟨v0, hv0, hk0⟩ := b14_0.at_ c14_0
      obtain ⟨A0, n0, rfl⟩ := hk0.form
      rw [if_pos (by rfl)]
      go_simp
      exact hK (_) _ (hI.next hR (by kernel_rfl) (Mod.refl _ _) (GB.quiet hI.1 (Mod.refl _ _) (by have hn := hR.not; simp [upd, hn] <;> omega) (HGs.out D 15 zw1 zw1 (hI.1).g (Mod.refl _ _))) (⟨A0, n0, upd_same V 15 _, hk0⟩))
    · intro D V zw1 a hR hI K hK
      obtain ⟨hS1, hM1, hB1, hG1⟩ := hI.1
      have ze0 := hR.frame.other (t := 0) (by kernel_rfl) rfl
      rw [if_pos (by rfl)]
      go_simp
      exact hK (.pointer (some ⟨b, 0, none⟩)) _ (hI.next hR (by kernel_rfl) (Mod.refl _ _) (GB.quiet hI.1 (Mod.refl _ _) (by have hn := hR.not; simp [upd, hn] <;> omega) (HGs.out D 16 zw1 zw1 (hI.1).g (Mod.refl _ _))) (upd_same V 16 _))
    · intro D V zw1 a hR hI K hK
      obtain ⟨hS1, hM1, hB1, hG1⟩ := hI.1
      rw [if_pos (by rfl)]
      go_simp
      exact hK (_) _ (hI.next hR (by kernel_rfl) ((Mod.refl _ _).alloc _) (GB.quiet hI.1 (pure_alloc _ _) (by have hn := hR.not; simp [upd, hn] <;> omega) (HGs.out D 17 _ _ (hI.1).g ((Mod.refl _ _).alloc _))) (⟨_, upd_same V 17 _, (by omega), (Blk.new _ _ _)⟩))
    · intro D V zw1 a hR hI K hK
      obtain ⟨hS1, hM1, hB1, hG1⟩ := hI.1
      have zd16 := hR.pred 16 (by kernel_rfl)
      have zF16 : V 16 = .pointer (some ⟨b, 0, none⟩) := hI.2 16 zd16 rfl
      have zf16 := zF16; clear zF16
      have zd17 := hR.pred 17 (by kernel_rfl)
      have zF17 : ∃ (g_17 : Nat), V 17 = .slice (some ⟨g_17, 0, none⟩) 4 4 ∧ W1.heap.size ≤ g_17 ∧ Blk zw1 g_17 3 #[(.int .i64 0), (.int .i64 0), (.int .i64 50), (.int .i64 1440)] := hI.2 17 zd17 (by show (!D 18) = true; rw [hR.not]; rfl)
      obtain ⟨g_17, zf17, c17_0, b17_0⟩ := zF17
      have ze22 := hR.frame.done (t := 22) (j := 16) (by kernel_rfl) hR.ok zd16
      have ze23 := hR.frame.done (t := 23) (j := 17) (by kernel_rfl) hR.ok zd17
      rw [if_pos (by rfl)]
      have := Bool.toNat_le (D 6)
      have := Bool.toNat_le (D 13)
      have := Bool.toNat_le (D 18)
      have := Bool.toNat_le (D 21)
      have hNB : N + ((D 6).toNat + (D 13).toNat + (D 18).toNat + (D 21).toNat) ≤ 1000000000 := by omega
      skip
      go_simp
      refine (pickv_calls _ _ _ _ 4 4 #[(.int .i64 0), (.int .i64 0), (.int .i64 50), (.int .i64 1440)] hS1 b17_0 hNB (by omega) rfl (by omega) (by omega) rfl).mono ?_
      rintro e zw2 ⟨k_0, hk, rfl, hS2, hm2⟩
      have hk2 : 0 ≤ k_0 ∧ k_0 ≤ 1440 := by simp [intsOf, Go.RowKit.intOf] at hk; omega
      exact hK (.int .i64 k_0) _ (hI.next hR (by kernel_rfl) hm2 (GB.asks hI.1 (fun _ h _ => h) hS2 hm2 (by have hn := hR.not; simp [upd, hn] <;> omega) (HGs.out D 18 _ _ (hI.1).g hm2)) (⟨k_0, upd_same V 18 _, hk2.1, hk2.2⟩))
    · intro D V zw1 a hR hI K hK
      obtain ⟨hS1, hM1, hB1, hG1⟩ := hI.1
      have ze0 := hR.frame.other (t := 0) (by kernel_rfl) rfl
      rw [if_pos (by rfl)]
      go_simp
      exact hK (.pointer (some ⟨b, 0, none⟩)) _ (hI.next hR (by kernel_rfl) (Mod.refl _ _) (GB.quiet hI.1 (Mod.refl _ _) (by have hn := hR.not; simp [upd, hn] <;> omega) (HGs.out D 19 zw1 zw1 (hI.1).g (Mod.refl _ _))) (upd_same V 19 _))
    · intro D V zw1 a hR hI K hK
      obtain ⟨hS1, hM1, hB1, hG1⟩ := hI.1
      rw [if_pos (by rfl)]
      go_simp
      exact hK (_) _ (hI.next hR (by kernel_rfl) ((Mod.refl _ _).alloc _) (GB.quiet hI.1 (pure_alloc _ _) (by have hn := hR.not; simp [upd, hn] <;> omega) (HGs.out D 20 _ _ (hI.1).g ((Mod.refl _ _).alloc _))) (⟨_, upd_same V 20 _, (by omega), (Blk.new _ _ _)⟩))
    · intro D V zw1 a hR hI K hK
      obtain ⟨hS1, hM1, hB1, hG1⟩ := hI.1
      have zd19 := hR.pred 19 (by kernel_rfl)
      have zF19 : V 19 = .pointer (some ⟨b, 0, none⟩) := hI.2 19 zd19 rfl
      have zf19 := zF19; clear zF19
      have zd20 := hR.pred 20 (by kernel_rfl)
      have zF20 : ∃ (g_20 : Nat), V 20 = .slice (some ⟨g_20, 0, none⟩) 3 3 ∧ W1.heap.size ≤ g_20 ∧ Blk zw1 g_20 3 #[(.int .i64 5761440), (.int .i64 5761440), (.int .i64 5000)] := hI.2 20 zd20 (by show (!D 21) = true; rw [hR.not]; rfl)
      obtain ⟨g_20, zf20, c20_0, b20_0⟩ := zF20
      have ze25 := hR.frame.done (t := 25) (j := 19) (by kernel_rfl) hR.ok zd19
      have ze26 := hR.frame.done (t := 26) (j := 20) (by kernel_rfl) hR.ok zd20
      rw [if_pos (by rfl)]
      have := Bool.toNat_le (D 6)
      have := Bool.toNat_le (D 13)
      have := Bool.toNat_le (D 18)
      have := Bool.toNat_le (D 21)
      have hNB : N + ((D 6).toNat + (D 13).toNat + (D 18).toNat + (D 21).toNat) ≤ 1000000000 := by omega
      skip
      go_simp
      refine (pickv_calls _ _ _ _ 3 3 #[(.int .i64 5761440), (.int .i64 5761440), (.int .i64 5000)] hS1 b20_0 hNB (by omega) rfl (by omega) (by omega) rfl).mono ?_
      rintro e zw2 ⟨k_0, hk, rfl, hS2, hm2⟩
      have hk2 : 5000 ≤ k_0 ∧ k_0 ≤ 5761440 := by simp [intsOf, Go.RowKit.intOf] at hk; omega
      exact hK (.int .i64 k_0) _ (hI.next hR (by kernel_rfl) hm2 (GB.asks hI.1 (fun _ h _ => h) hS2 hm2 (by have hn := hR.not; simp [upd, hn] <;> omega) (HGs.out D 21 _ _ (hI.1).g hm2)) (⟨k_0, upd_same V 21 _, hk2.1, hk2.2⟩))
    · intro D V zw1 a hR hI K hK
      obtain ⟨hS1, hM1, hB1, hG1⟩ := hI.1
      have zd18 := hR.pred 18 (by kernel_rfl)
      have zF18 : ∃ (k_18 : Int), V 18 = .int .i64 k_18 ∧ 0 ≤ k_18 ∧ k_18 ≤ 1440 := hI.2 18 zd18 rfl
      obtain ⟨k_18, zf18, c18_0, c18_1⟩ := zF18
      have zd21 := hR.pred 21 (by kernel_rfl)
      have zF21 : ∃ (k_21 : Int), V 21 = .int .i64 k_21 ∧ 5000 ≤ k_21 ∧ k_21 ≤ 5761440 := hI.2 21 zd21 rfl
      obtain ⟨k_21, zf21, c21_0, c21_1⟩ := zF21
      have ze24 := hR.frame.done (t := 24) (j := 18) (by kernel_rfl) hR.ok zd18
      have ze27 := hR.frame.done (t := 27) (j := 21) (by kernel_rfl) hR.ok zd21
      rw [if_pos (by rfl)]
      go_simp
      exact hK (_) _ (hI.next hR (by kernel_rfl) (Mod.refl _ _) (GB.quiet hI.1 (Mod.refl _ _) (by have hn := hR.not; simp [upd, hn] <;> omega) (HGs.out D 22 zw1 zw1 (hI.1).g (Mod.refl _ _))) (⟨k_18, k_21, upd_same V 22 _, (by first | assumption | omega), (by first | assumption | omega), (by first | assumption | omega), (by first | assumption | omega)⟩))
    · intro D V zw1 a hR hI K hK
      obtain ⟨hS1, hM1, hB1, hG1⟩ := hI.1
      have zd8 := hR.pred 8 (by kernel_rfl)
      have zF8 : ∃ (A_8 : Option Addr) (n_8 : Nat), V 8 = .slice A_8 n_8 n_8 ∧ KsOk zw1 b (.slice A_8 n_8 n_8) := hI.2 8 zd8 (by show (!D 23) = true; rw [hR.not]; rfl)
      obtain ⟨A_8, n_8, zf8, b8_0⟩ := zF8
      have zd15 := hR.pred 15 (by kernel_rfl)
      have zF15 : ∃ (A_15 : Option Addr) (n_15 : Nat), V 15 = .slice A_15 n_15 n_15 ∧ CsOk zw1 b (.slice A_15 n_15 n_15) := hI.2 15 zd15 (by show (!D 23) = true; rw [hR.not]; rfl)
      obtain ⟨A_15, n_15, zf15, b15_0⟩ := zF15
      have zd22 := hR.pred 22 (by kernel_rfl)
      have zF22 : ∃ (k_22 : Int) (ka_22 : Int), V 22 = .agg #[.int .i64 k_22, .int .i64 ka_22] ∧ 0 ≤ k_22 ∧ k_22 ≤ 1440 ∧ 5000 ≤ ka_22 ∧ ka_22 ≤ 5761440 := hI.2 22 zd22 rfl
      obtain ⟨k_22, ka_22, zf22, c22_0, c22_1, c22_2, c22_3⟩ := zF22
      have ze14 := hR.frame.done (t := 14) (j := 8) (by kernel_rfl) hR.ok zd8
      have ze21 := hR.frame.done (t := 21) (j := 15) (by kernel_rfl) hR.ok zd15
      have ze28 := hR.frame.done (t := 28) (j := 22) (by kernel_rfl) hR.ok zd22
      rw [if_pos (by rfl)]
      go_simp
      exact hK (_) _ (hI.next hR (by kernel_rfl) (Mod.refl _ _) (GB.quiet hI.1 (Mod.refl _ _) (by have hn := hR.not; simp [upd, hn] <;> omega) (HGs.out D 23 zw1 zw1 (hI.1).g (Mod.refl _ _))) (⟨A_8, n_8, A_15, n_15, k_22, ka_22, upd_same V 23 _, b8_0, b15_0⟩))
    · intro D V zw1 a hR hI K hK
      obtain ⟨hS1, hM1, hB1, hG1⟩ := hI.1
      rw [if_pos (by rfl)]
      go_simp
      exact hK (_) _ (hI.next hR (by kernel_rfl) ((Mod.refl _ _).alloc _) (GB.quiet hI.1 (pure_alloc _ _) (by have hn := hR.not; simp [upd, hn] <;> omega) (HGs.out D 24 _ _ (hI.1).g ((Mod.refl _ _).alloc _))) (⟨_, upd_same V 24 _, (by omega), (Blk.new _ _ _)⟩))
    · intro D V zw1 a hR hI K hK
      obtain ⟨hS1, hM1, hB1, hG1⟩ := hI.1
      have zd24 := hR.pred 24 (by kernel_rfl)
      have zF24 : ∃ (g_24 : Nat), V 24 = .pointer (some ⟨g_24, 0, none⟩) ∧ W1.heap.size ≤ g_24 ∧ Blk zw1 g_24 33 #[.slice none 0 0, .slice none 0 0, .int .i64 0, .int .i64 0, .slice none 0 0] := hI.2 24 zd24 (by show (!D 25) = true; rw [hR.not]; rfl)
      obtain ⟨g_24, zf24, c24_0, b24_0⟩ := zF24
      have zd23 := hR.pred 23 (by kernel_rfl)
      have zF23 : ∃ (A_23 : Option Addr) (n_23 : Nat) (B_23 : Option Addr) (m_23 : Nat) (fr_23 : Int) (tl_23 : Int), V 23 = .agg #[.slice A_23 n_23 n_23, .slice B_23 m_23 m_23, .int .i64 fr_23, .int .i64 tl_23, .slice none 0 0] ∧ KsOk zw1 b (.slice A_23 n_23 n_23) ∧ CsOk zw1 b (.slice B_23 m_23 m_23) := hI.2 23 zd23 (by show (!D 25) = true; rw [hR.not]; rfl)
      obtain ⟨A_23, n_23, B_23, m_23, fr_23, tl_23, zf23, b23_0, b23_1⟩ := zF23
      have ze5 := hR.frame.done (t := 5) (j := 24) (by kernel_rfl) hR.ok zd24
      have ze29 := hR.frame.done (t := 29) (j := 23) (by kernel_rfl) hR.ok zd23
      rw [if_pos (by rfl)]
      have zx0 := b24_0.cell 0; have zx1 := b24_0.cell 1; have zx2 := b24_0.cell 2; have zx3 := b24_0.cell 3; have zx4 := b24_0.cell 4
      have zy0 := b24_0.frozen 0; have zy1 := b24_0.frozen 1; have zy2 := b24_0.frozen 2; have zy3 := b24_0.frozen 3; have zy4 := b24_0.frozen 4
      simp at zx0 zx1 zx2 zx3 zx4
      have hFN := FilNew.stored (fr := fr_23) (tl := tl_23) b24_0 (by omega) b23_0 b23_1
      go_simp
      refine hK undef _ (InvF.last ⟨((((((hS1.setCell (by show b < g_24; omega) _).setCell (by show b < g_24; omega) _).setCell (by show b < g_24; omega) _).setCell (by show b < g_24; omega) _).setCell (by show b < g_24; omega) _).more (by have hn := hR.not; simp [upd, hn] <;> omega)), (((((hM1.setCell (.inr (by show _ ≤ g_24; omega)) _).setCell (.inr (by show _ ≤ g_24; omega)) _).setCell (.inr (by show _ ≤ g_24; omega)) _).setCell (.inr (by show _ ≤ g_24; omega)) _).setCell (.inr (by show _ ≤ g_24; omega)) _), (by simpa using hB1), (((((hG1.far (by show gr ≠ g_24; omega) _).far (by show gr ≠ g_24; omega) _).far (by show gr ≠ g_24; omega) _).far (by show gr ≠ g_24; omega) _).far (by show gr ≠ g_24; omega) _)⟩ ⟨g_24, (upd_ne V (i := 25) (k := 24) undef (by omega)).trans zf24, (by omega), hFN⟩ ?_)
      intro k hk hDk hlv
      have hkl := hR.lt k hDk
      have hv := hI.2 k hDk (liveB_of hlv)
      match k, hk, hDk, hlv, hkl, hv with
      | 0, _, _, hlv, _, _ => exact absurd hlv (by show ¬ (!upd D 25 true 4) = true; rw [upd_ne _ _ (by omega), hR.pred 4 (by kernel_rfl)]; decide)
      | 1, _, _, hlv, _, _ => exact absurd hlv (by show ¬ (!upd D 25 true 4) = true; rw [upd_ne _ _ (by omega), hR.pred 4 (by kernel_rfl)]; decide)
      | 2, _, _, hlv, _, _ => exact absurd hlv (by show ¬ (!upd D 25 true 4) = true; rw [upd_ne _ _ (by omega), hR.pred 4 (by kernel_rfl)]; decide)
      | 3, _, _, hlv, _, _ => exact absurd hlv (by show ¬ (!upd D 25 true 4) = true; rw [upd_ne _ _ (by omega), hR.pred 4 (by kernel_rfl)]; decide)
      | 4, _, _, hlv, _, _ => exact absurd hlv (by show ¬ (!upd D 25 true 7) = true; rw [upd_ne _ _ (by omega), hR.pred 7 (by kernel_rfl)]; decide)
      | 5, _, _, _, _, hv => exact hv
      | 6, _, _, _, _, hv => exact hv
      | 7, _, _, hlv, _, _ => exact absurd hlv (by show ¬ (!upd D 25 true 8) = true; rw [upd_ne _ _ (by omega), hR.pred 8 (by kernel_rfl)]; decide)
      | 8, _, _, hlv, _, _ => exact absurd hlv (by show ¬ (!upd D 25 true 23) = true; rw [upd_ne _ _ (by omega), hR.pred 23 (by kernel_rfl)]; decide)
      | 9, _, _, hlv, _, _ => exact absurd hlv (by show ¬ (!upd D 25 true 11) = true; rw [upd_ne _ _ (by omega), hR.pred 11 (by kernel_rfl)]; decide)
      | 10, _, _, hlv, _, _ => exact absurd hlv (by show ¬ (!upd D 25 true 11) = true; rw [upd_ne _ _ (by omega), hR.pred 11 (by kernel_rfl)]; decide)
      | 11, _, _, hlv, _, _ => exact absurd hlv (by show ¬ (!upd D 25 true 14) = true; rw [upd_ne _ _ (by omega), hR.pred 14 (by kernel_rfl)]; decide)
      | 12, _, _, _, _, hv => exact hv
      | 13, _, _, _, _, hv => exact hv
      | 14, _, _, hlv, _, _ => exact absurd hlv (by show ¬ (!upd D 25 true 15) = true; rw [upd_ne _ _ (by omega), hR.pred 15 (by kernel_rfl)]; decide)
      | 15, _, _, hlv, _, _ => exact absurd hlv (by show ¬ (!upd D 25 true 23) = true; rw [upd_ne _ _ (by omega), hR.pred 23 (by kernel_rfl)]; decide)
      | 16, _, _, _, _, hv => exact hv
      | 17, _, _, hlv, _, _ => exact absurd hlv (by show ¬ (!upd D 25 true 18) = true; rw [upd_ne _ _ (by omega), hR.pred 18 (by kernel_rfl)]; decide)
      | 18, _, _, _, _, hv => exact hv
      | 19, _, _, _, _, hv => exact hv
      | 20, _, _, hlv, _, _ => exact absurd hlv (by show ¬ (!upd D 25 true 21) = true; rw [upd_ne _ _ (by omega), hR.pred 21 (by kernel_rfl)]; decide)
      | 21, _, _, _, _, hv => exact hv
      | 22, _, _, _, _, hv => exact hv
      | 23, _, _, hlv, _, _ => exact absurd hlv (by show ¬ (!upd D 25 true 25) = true; rw [upd_same]; decide)
      | 24, _, _, hlv, _, _ => exact absurd hlv (by show ¬ (!upd D 25 true 25) = true; rw [upd_same]; decide)
      | 25, hk, _, _, _, _ => exact absurd rfl hk
      | k + 26, _, _, _, hkl, _ => exact absurd hkl (by simp)
  · intro D V w2 hD hI
    obtain ⟨hS1, hM1, hB1, hG1⟩ := hI.1
    have hSx : Strm w2 b (N + 4) := hS1.more (by show _ ≤ _; have := Bool.toNat_le (D 6); have := Bool.toNat_le (D 13); have := Bool.toNat_le (D 18); have := Bool.toNat_le (D 21); omega)
    clear hS1
    have hMx := hM1
    clear hM1
    have hBx := hB1
    clear hB1
    have hGx := hG1
    clear hG1
    have zF5 : V 5 = .pointer (some ⟨b, 0, none⟩) := hI.2 5 (hD 5 (by decide)) rfl
    have zf5 := zF5; clear zF5
    have zF6 : ∃ (q_6 : Nat), V 6 = .int .i64 (q_6 : Int) ∧ q_6 < 5 := hI.2 6 (hD 6 (by decide)) rfl
    obtain ⟨q_6, zf6, c6_0⟩ := zF6
    have zF12 : V 12 = .pointer (some ⟨b, 0, none⟩) := hI.2 12 (hD 12 (by decide)) rfl
    have zf12 := zF12; clear zF12
    have zF13 : ∃ (q_13 : Nat), V 13 = .int .i64 (q_13 : Int) ∧ q_13 < 3 := hI.2 13 (hD 13 (by decide)) rfl
    obtain ⟨q_13, zf13, c13_0⟩ := zF13
    have zF16 : V 16 = .pointer (some ⟨b, 0, none⟩) := hI.2 16 (hD 16 (by decide)) rfl
    have zf16 := zF16; clear zF16
    have zF18 : ∃ (k_18 : Int), V 18 = .int .i64 k_18 ∧ 0 ≤ k_18 ∧ k_18 ≤ 1440 := hI.2 18 (hD 18 (by decide)) rfl
    obtain ⟨k_18, zf18, c18_0, c18_1⟩ := zF18
    have zF19 : V 19 = .pointer (some ⟨b, 0, none⟩) := hI.2 19 (hD 19 (by decide)) rfl
    have zf19 := zF19; clear zF19
    have zF21 : ∃ (k_21 : Int), V 21 = .int .i64 k_21 ∧ 5000 ≤ k_21 ∧ k_21 ≤ 5761440 := hI.2 21 (hD 21 (by decide)) rfl
    obtain ⟨k_21, zf21, c21_0, c21_1⟩ := zF21
    have zF22 : ∃ (k_22 : Int) (ka_22 : Int), V 22 = .agg #[.int .i64 k_22, .int .i64 ka_22] ∧ 0 ≤ k_22 ∧ k_22 ≤ 1440 ∧ 5000 ≤ ka_22 ∧ ka_22 ≤ 5761440 := hI.2 22 (hD 22 (by decide)) rfl
    obtain ⟨k_22, ka_22, zf22, c22_0, c22_1, c22_2, c22_3⟩ := zF22
    have zF25 : ∃ (g_25 : Nat), V 24 = .pointer (some ⟨g_25, 0, none⟩) ∧ W1.heap.size ≤ g_25 ∧ FilNew w2 b g_25 := hI.2 25 (hD 25 (by decide)) rfl
    obtain ⟨g_25, zf25, c25_0, b25_0⟩ := zF25
    clear hI hD HGs
    simp only [frAll, Act.put, List.setIfInBounds_toArray, List.set_cons_zero, List.set_cons_succ, Nat.zero_add, Nat.reduceAdd, zf5, zf6, zf12, zf13, zf16, zf18, zf19, zf21, zf22, zf25]
    clear zf5 zf6 zf12 zf13 zf16 zf18 zf19 zf21 zf22 zf25
    generalize V 0 = u0
    generalize V 1 = u1
    generalize V 2 = u2
    generalize V 3 = u3
    generalize V 4 = u4
    generalize V 7 = u7
    generalize V 8 = u8
    generalize V 9 = u9
    generalize V 10 = u10
    generalize V 11 = u11
    generalize V 14 = u14
    generalize V 15 = u15
    generalize V 17 = u17
    generalize V 20 = u20
    generalize V 23 = u23
    clear V D
    obtain ⟨base, hba⟩ : ∃ base, base = w2.heap.size := ⟨_, rfl⟩
    have hgrg : gr < g_25 := by omega
    have HQ := Lib.hid (b25_0.start hGx (by omega) hgrg hba)
    clear hba b25_0 hGx hBx hW1 hS1 m1 HG c18_0 c18_1 c21_0 c21_1 c22_0 c22_1 c22_2 c22_3 c6_0 c13_0
    generalize g_25 = g at *
    have HLT := Lib.hid HQ.out.lts
    have hbg : b < g := by omega
    have hwg : w.heap.size ≤ g := by omega
    have hbl2 := hSx.lt
    go_wp2_with fail
    refine (range_calls _ b _ _ _ hSx (by omega) (by omega) (by omega) (by omega)).mono ?_
    rintro e w3 ⟨r, hr0, hr1, rfl, hS3, hM3⟩
    obtain ⟨r, rfl⟩ := Int.eq_ofNat_of_zero_le hr0
    have hr3 : r ≤ 3 := by omega
    have HQ3 := Lib.hid (HQ.out.ask hM3)
    have m3 := hMx.trans hM3
    clear HQ hSx hMx hM3 hr0 hr1
    go_wp2_with fail
    go_loopg [32] r (fun gk i wr => FlRel w b N g gr base r gk i wr)
    case atStart => exact ⟨0, 0, 0, none, [], rfl, by omega, rfl, by omega, fun s h => absurd h (by simp), HQ3.out, hS3.more (by omega), m3⟩
    case round =>
      clear HQ3 hS3 m3
      obtain ⟨k, cap, n, A, ss, rfl, hk, rfl, hnk, hsz, hQ, hS4, m4⟩ := hrel
      have HSZ := Lib.hid hsz
      clear hsz
      by_cases hlt : k < r
      · by_cases hl0 : l.length = 0
        · have hl0' : ¬ (0 : Int) < (l.length : Int) := by omega
          have HQ4 := Lib.hid hQ
          clear hQ hl0
          go_wp2_with fail
          go_roundg (r - (k + 1))
          case measure => omega
          case rel => exact ⟨k + 1, cap, n, A, ss, rfl, hlt, by simp, by omega, HSZ.out, HQ4.out, hS4.more (by omega), m4⟩
        · have hl0' : (0 : Int) < (l.length : Int) := by omega
          obtain ⟨gl, off, rfl, hrw⟩ := HROW.out (by omega)
          have hglb := HNB.out _ _ _ hrw
          have hglw := hrw.lt
          have hrw4 := hrw.mod m4 hglb
          obtain ⟨_, _, hgbs, _⟩ := HLT.out
          have hbw := hQ.lts.2.2.2
          obtain ⟨i0, hi0, hz0, hz1, hz2⟩ := info_parts info_str0
          have HQ4 := Lib.hid hQ
          clear hQ hl0 hrw
          go_upto_region 5 with (fail)
          obtain ⟨N1, hN1⟩ : ∃ N1, N1 = N + 6 + k := ⟨_, rfl⟩
          rw [← hN1] at hS4
          have hN1a := Nat.le_of_eq hN1
          have hN1b := Nat.le_of_eq hN1.symm
          clear hN1
          have hb4 := hS4.lt
          have HGs := Lib.hid (show ∀ (D : Nat → Bool) (zzi : Nat) (zq zq' : World), zzi ≠ 11 → (fun D zq => (D 11 = false → (fun Z => FilQ Z b g gr base (.slice A n cap) (.slice A n cap) n ss) zq) ∧ (fun Z => RowAt Z 71 gl off (itV l)) zq) D zq → Mod (· = b) zq zq' → (fun D zq => (D 11 = false → (fun Z => FilQ Z b g gr base (.slice A n cap) (.slice A n cap) n ss) zq) ∧ (fun Z => RowAt Z 71 gl off (itV l)) zq) (upd D zzi true) zq' from by intro D zzi zq zq' hi hh hm; refine ⟨fun hs => ?_, ?_⟩; (rw [upd_ne _ _ (Ne.symm hi)] at hs; have h := hh.1 hs; (exact h.ask hm)); (have h := hh.2; (exact h.mod hm (by omega))))
          refine wp_region_inv (by kernel_rfl) (by kernel_rfl) (InvF (R := Mod (· = b)) [.is (.pointer (some ⟨g, 4, none⟩)),
              .is (.slice A n cap),
              .is (.slice (some ⟨gl, off, none⟩) l.length cl),
              .is (.pointer (some ⟨b, 0, none⟩)),
              .is (.slice (some ⟨gl, off, none⟩) l.length cl),
              .is (.int .i64 (l.length : Int)),
              .val (fun zv => ∃ (q_6 : Nat), zv = .int .i64 (q_6 : Int) ∧ q_6 < l.length),
              .val (fun zv => ∃ (q_7 : Nat), zv = .pointer (some ⟨gl, off + q_7 * 7, none⟩) ∧ q_7 < l.length),
              .val (fun zv => ∃ (x_8 : Itm), zv = .agg #[.string ⟨x_8.id.toArray⟩, .string ⟨x_8.cust.toArray⟩, .int .i64 x_8.kind, .string ⟨x_8.name.toArray⟩, .int .i64 x_8.tm, .string ⟨x_8.par.toArray⟩, .string ⟨x_8.text.toArray⟩] ∧ x_8 ∈ l),
              .val (fun zv => ∃ (s_9 : Str), zv = .string ⟨s_9.toArray⟩ ∧ s_9.length ≤ 1000),
              ⟨fun zv zw => ∃ (s_10 : Str) (g_10 : Nat), zv = .slice (some ⟨g_10, 0, none⟩) 1 1 ∧ s_10.length ≤ 1000 ∧ wr.heap.size ≤ g_10 ∧ Blk zw g_10 9 #[.string ⟨s_10.toArray⟩], (by rintro zv zw zx ⟨s_10, g_10, rfl, c0, c1, q0⟩ hm; exact ⟨s_10, g_10, rfl, c0, c1, (q0.modb hm (by omega))⟩), none, some 11⟩,
              ⟨fun zv zw => ∃ (g_11 : Nat) (c_11 : Nat) (s_11 : Str), zv = .slice (some ⟨g_11, 0, none⟩) (n + 1) c_11 ∧ s_11.length ≤ 1000 ∧ FilQ zw b g gr base (.slice A n cap) (.slice (some ⟨g_11, 0, none⟩) (n + 1) c_11) (n + 1) (ss ++ [s_11]), (by rintro zv zw zx ⟨g_11, c_11, s_11, rfl, c0, q0⟩ hm; exact ⟨g_11, c_11, s_11, rfl, c0, (q0.ask hm)⟩), none, some 13⟩,
              .is (.pointer (some ⟨g, 4, none⟩)),
              ⟨fun zv zw => zv = undef ∧ FilEx zw b g gr base n ss, (by rintro zv zw zx ⟨rfl, q0⟩ hm; exact ⟨rfl, (q0.ask hm)⟩), none, none⟩]
              (GB w (· = b) wr.heap.size b (N1) (fun D => (D 6).toNat) (fun D zq => (D 11 = false → (fun Z => FilQ Z b g gr base (.slice A n cap) (.slice A n cap) n ss) zq) ∧ (fun Z => RowAt Z 71 gl off (itV l)) zq))) (InvF.start (GB.start hS4 m4 (Nat.le_refl _) (⟨fun _ => HQ4.out.ask ((Mod.refl _ _).drew), hrw4.mod ((Mod.refl (fun _ => False) _).drew) _root_.id⟩))) ?_ ?_
          · refine .cons ?_ (.cons ?_ (.cons ?_ (.cons ?_ (.cons ?_ (.cons ?_ (.cons ?_ (.cons ?_ (.cons ?_ (.cons ?_ (.cons ?_ (.cons ?_ (.cons ?_ (.cons ?_ .nil)))))))))))))
            · intro D V zw1 a hR hI K hK
              obtain ⟨hS1, hM1, hB1, hG1⟩ := hI.1
              obtain ⟨hGK, hG1⟩ := hG1
              have ze5 := hR.frame.other (t := 5) (by kernel_rfl) rfl
              rw [if_pos (by rfl)]
              go_simp
              exact hK (.pointer (some ⟨g, 4, none⟩)) _ (hI.next hR (by kernel_rfl) (Mod.refl _ _) (GB.quiet hI.1 (Mod.refl _ _) (by have hn := hR.not; simp [upd, hn] <;> omega) (HGs.out D 0 zw1 zw1 (by omega) (hI.1).g (Mod.refl _ _))) (upd_same V 0 _))
            · intro D V zw1 a hR hI K hK
              obtain ⟨hS1, hM1, hB1, hG1⟩ := hI.1
              obtain ⟨hGK, hG1⟩ := hG1
              have zd0 := hR.pred 0 (by kernel_rfl)
              have zF0 : V 0 = .pointer (some ⟨g, 4, none⟩) := hI.2 0 zd0 rfl
              have zf0 := zF0; clear zF0
              have ze37 := hR.frame.done (t := 37) (j := 0) (by kernel_rfl) hR.ok zd0
              have zx0 := (hGK (hR.later 11 rfl (by kernel_rfl))).cell
              rw [if_pos (by rfl)]
              go_simp
              exact hK (.slice A n cap) _ (hI.next hR (by kernel_rfl) (Mod.refl _ _) (GB.quiet hI.1 (Mod.refl _ _) (by have hn := hR.not; simp [upd, hn] <;> omega) (HGs.out D 1 zw1 zw1 (by omega) (hI.1).g (Mod.refl _ _))) (upd_same V 1 _))
            · intro D V zw1 a hR hI K hK
              obtain ⟨hS1, hM1, hB1, hG1⟩ := hI.1
              obtain ⟨hGK, hG1⟩ := hG1
              have ze1 := hR.frame.other (t := 1) (by kernel_rfl) rfl
              rw [if_pos (by rfl)]
              go_simp
              exact hK (.slice (some ⟨gl, off, none⟩) l.length cl) _ (hI.next hR (by kernel_rfl) (Mod.refl _ _) (GB.quiet hI.1 (Mod.refl _ _) (by have hn := hR.not; simp [upd, hn] <;> omega) (HGs.out D 2 zw1 zw1 (by omega) (hI.1).g (Mod.refl _ _))) (upd_same V 2 _))
            · intro D V zw1 a hR hI K hK
              obtain ⟨hS1, hM1, hB1, hG1⟩ := hI.1
              obtain ⟨hGK, hG1⟩ := hG1
              have ze0 := hR.frame.other (t := 0) (by kernel_rfl) rfl
              rw [if_pos (by rfl)]
              go_simp
              exact hK (.pointer (some ⟨b, 0, none⟩)) _ (hI.next hR (by kernel_rfl) (Mod.refl _ _) (GB.quiet hI.1 (Mod.refl _ _) (by have hn := hR.not; simp [upd, hn] <;> omega) (HGs.out D 3 zw1 zw1 (by omega) (hI.1).g (Mod.refl _ _))) (upd_same V 3 _))
            · intro D V zw1 a hR hI K hK
              obtain ⟨hS1, hM1, hB1, hG1⟩ := hI.1
              obtain ⟨hGK, hG1⟩ := hG1
              have ze1 := hR.frame.other (t := 1) (by kernel_rfl) rfl
              rw [if_pos (by rfl)]
              go_simp
              exact hK (.slice (some ⟨gl, off, none⟩) l.length cl) _ (hI.next hR (by kernel_rfl) (Mod.refl _ _) (GB.quiet hI.1 (Mod.refl _ _) (by have hn := hR.not; simp [upd, hn] <;> omega) (HGs.out D 4 zw1 zw1 (by omega) (hI.1).g (Mod.refl _ _))) (upd_same V 4 _))
            · intro D V zw1 a hR hI K hK
              obtain ⟨hS1, hM1, hB1, hG1⟩ := hI.1
              obtain ⟨hGK, hG1⟩ := hG1
              have zd4 := hR.pred 4 (by kernel_rfl)
              have zF4 : V 4 = .slice (some ⟨gl, off, none⟩) l.length cl := hI.2 4 zd4 rfl
              have zf4 := zF4; clear zF4
              have ze41 := hR.frame.done (t := 41) (j := 4) (by kernel_rfl) hR.ok zd4
              rw [if_pos (by rfl)]
              go_simp
              exact hK (.int .i64 (l.length : Int)) _ (hI.next hR (by kernel_rfl) (Mod.refl _ _) (GB.quiet hI.1 (Mod.refl _ _) (by have hn := hR.not; simp [upd, hn] <;> omega) (HGs.out D 5 zw1 zw1 (by omega) (hI.1).g (Mod.refl _ _))) (upd_same V 5 _))
            · intro D V zw1 a hR hI K hK
              obtain ⟨hS1, hM1, hB1, hG1⟩ := hI.1
              obtain ⟨hGK, hG1⟩ := hG1
              have zd3 := hR.pred 3 (by kernel_rfl)
              have zF3 : V 3 = .pointer (some ⟨b, 0, none⟩) := hI.2 3 zd3 rfl
              have zf3 := zF3; clear zF3
              have zd5 := hR.pred 5 (by kernel_rfl)
              have zF5 : V 5 = .int .i64 (l.length : Int) := hI.2 5 zd5 rfl
              have zf5 := zF5; clear zF5
              have ze40 := hR.frame.done (t := 40) (j := 3) (by kernel_rfl) hR.ok zd3
              have ze42 := hR.frame.done (t := 42) (j := 5) (by kernel_rfl) hR.ok zd5
              rw [if_pos (by rfl)]
              have := Bool.toNat_le (D 6)
              have hNB : N1 + ((D 6).toNat) ≤ 1000000000 := by omega
              skip
              go_simp
              refine (next_calls _ _ _ _ hS1 hNB (by omega) (by omega)).mono ?_
              rintro e zw2 ⟨k_0, hk1, hk2, rfl, hS2, hm2⟩
              obtain ⟨q_0, rfl⟩ := Int.eq_ofNat_of_zero_le hk1
              exact hK (.int .i64 (q_0 : Int)) _ (hI.next hR (by kernel_rfl) hm2 (GB.asks hI.1 (fun _ h _ => h) hS2 hm2 (by have hn := hR.not; simp [upd, hn] <;> omega) (HGs.out D 6 _ _ (by omega) (hI.1).g hm2)) (⟨q_0, upd_same V 6 _, (by first | assumption | omega)⟩))
            · intro D V zw1 a hR hI K hK
              obtain ⟨hS1, hM1, hB1, hG1⟩ := hI.1
              obtain ⟨hGK, hG1⟩ := hG1
              have zd2 := hR.pred 2 (by kernel_rfl)
              have zF2 : V 2 = .slice (some ⟨gl, off, none⟩) l.length cl := hI.2 2 zd2 rfl
              have zf2 := zF2; clear zF2
              have zd6 := hR.pred 6 (by kernel_rfl)
              have zF6 : ∃ (q_6 : Nat), V 6 = .int .i64 (q_6 : Int) ∧ q_6 < l.length := hI.2 6 zd6 rfl
              obtain ⟨q_6, zf6, c6_0⟩ := zF6
              have ze39 := hR.frame.done (t := 39) (j := 2) (by kernel_rfl) hR.ok zd2
              have ze43 := hR.frame.done (t := 43) (j := 6) (by kernel_rfl) hR.ok zd6
              have zb : (q_6 : Int) < (l.length : Int) := by omega
              rw [if_pos (by rfl)]
              go_simp
              exact hK (_) _ (hI.next hR (by kernel_rfl) (Mod.refl _ _) (GB.quiet hI.1 (Mod.refl _ _) (by have hn := hR.not; simp [upd, hn] <;> omega) (HGs.out D 7 zw1 zw1 (by omega) (hI.1).g (Mod.refl _ _))) (⟨q_6, upd_same V 7 _, c6_0⟩))
            · intro D V zw1 a hR hI K hK
              obtain ⟨hS1, hM1, hB1, hG1⟩ := hI.1
              obtain ⟨hGK, hG1⟩ := hG1
              have zd7 := hR.pred 7 (by kernel_rfl)
              have zF7 : ∃ (q_7 : Nat), V 7 = .pointer (some ⟨gl, off + q_7 * 7, none⟩) ∧ q_7 < l.length := hI.2 7 zd7 rfl
              obtain ⟨q_7, zf7, c7_0⟩ := zF7
              have ze44 := hR.frame.done (t := 44) (j := 7) (by kernel_rfl) hR.ok zd7
              have hget := itV_get l q_7 c7_0
              have zq0 := hG1.cell hget.1
              have zq1 := hG1.cell hget.2.1
              have zq2 := hG1.cell hget.2.2.1
              have zq3 := hG1.cell hget.2.2.2.1
              have zq4 := hG1.cell hget.2.2.2.2.1
              have zq5 := hG1.cell hget.2.2.2.2.2.1
              have zq6 := hG1.cell hget.2.2.2.2.2.2
              rw [← Nat.add_assoc] at zq1 zq2 zq3 zq4 zq5 zq6
              clear hget
              have zin : l[q_7] ∈ l := List.getElem_mem c7_0
              generalize l[q_7] = xq at *
              rw [if_pos (by rfl)]
              go_simp
              exact hK (_) _ (hI.next hR (by kernel_rfl) (Mod.refl _ _) (GB.quiet hI.1 (Mod.refl _ _) (by have hn := hR.not; simp [upd, hn] <;> omega) (HGs.out D 8 zw1 zw1 (by omega) (hI.1).g (Mod.refl _ _))) (⟨xq, upd_same V 8 _, zin⟩))
            · intro D V zw1 a hR hI K hK
              obtain ⟨hS1, hM1, hB1, hG1⟩ := hI.1
              obtain ⟨hGK, hG1⟩ := hG1
              have zd8 := hR.pred 8 (by kernel_rfl)
              have zF8 : ∃ (x_8 : Itm), V 8 = .agg #[.string ⟨x_8.id.toArray⟩, .string ⟨x_8.cust.toArray⟩, .int .i64 x_8.kind, .string ⟨x_8.name.toArray⟩, .int .i64 x_8.tm, .string ⟨x_8.par.toArray⟩, .string ⟨x_8.text.toArray⟩] ∧ x_8 ∈ l := hI.2 8 zd8 rfl
              obtain ⟨x_8, zf8, c8_0⟩ := zF8
              have ze45 := hR.frame.done (t := 45) (j := 8) (by kernel_rfl) hR.ok zd8
              rw [if_pos (by rfl)]
              have := Bool.toNat_le (D 6)
              have hNB : N1 + ((D 6).toNat) ≤ 1000000000 := by omega
              skip
              go_simp
              refine (SumOf_calls _ x_8 (HZ.out _ c8_0) (HKD.out _ c8_0).1 (HKD.out _ c8_0).2).mono ?_
              rintro e zw2 ⟨rfl, hm2⟩
              have hs0 : (sumS x_8).length ≤ 1000 := by unfold sumS; rw [digS_lenF]; omega
              generalize sumS x_8 = s_0 at *
              exact hK (.string ⟨s_0.toArray⟩) _ (hI.next hR (by kernel_rfl) (Mod.of_pure hm2) (GB.quiet hI.1 hm2 (by have hn := hR.not; simp [upd, hn] <;> omega) (HGs.out D 9 _ _ (by omega) (hI.1).g (Mod.of_pure hm2))) (⟨s_0, upd_same V 9 _, hs0⟩))
            · intro D V zw1 a hR hI K hK
              obtain ⟨hS1, hM1, hB1, hG1⟩ := hI.1
              obtain ⟨hGK, hG1⟩ := hG1
              have zd9 := hR.pred 9 (by kernel_rfl)
              have zF9 : ∃ (s_9 : Str), V 9 = .string ⟨s_9.toArray⟩ ∧ s_9.length ≤ 1000 := hI.2 9 zd9 rfl
              obtain ⟨s_9, zf9, c9_0⟩ := zF9
              have ze46 := hR.frame.done (t := 46) (j := 9) (by kernel_rfl) hR.ok zd9
              rw [if_pos (by rfl)]
              go_simp
              exact hK (_) _ (hI.next hR (by kernel_rfl) ((Mod.refl _ _).alloc _) (GB.quiet hI.1 (pure_alloc _ _) (by have hn := hR.not; simp [upd, hn] <;> omega) (HGs.out D 10 _ _ (by omega) (hI.1).g ((Mod.refl _ _).alloc _))) (⟨s_9, _, upd_same V 10 _, (by first | assumption | omega), (by omega), (Blk.new _ _ _)⟩))
            · intro D V zw1 a hR hI K hK
              obtain ⟨hS1, hM1, hB1, hG1⟩ := hI.1
              obtain ⟨hGK, hG1⟩ := hG1
              have zd1 := hR.pred 1 (by kernel_rfl)
              have zF1 : V 1 = .slice A n cap := hI.2 1 zd1 rfl
              have zf1 := zF1; clear zF1
              have zd10 := hR.pred 10 (by kernel_rfl)
              have zF10 : ∃ (s_10 : Str) (g_10 : Nat), V 10 = .slice (some ⟨g_10, 0, none⟩) 1 1 ∧ s_10.length ≤ 1000 ∧ wr.heap.size ≤ g_10 ∧ Blk zw1 g_10 9 #[.string ⟨s_10.toArray⟩] := hI.2 10 zd10 (by show (!D 11) = true; rw [hR.not]; rfl)
              obtain ⟨s_10, g_10, zf10, c10_0, c10_1, b10_0⟩ := zF10
              have ze38 := hR.frame.done (t := 38) (j := 1) (by kernel_rfl) hR.ok zd1
              have ze47 := hR.frame.done (t := 47) (j := 10) (by kernel_rfl) hR.ok zd10
              rw [if_pos (by rfl)]
              have hown := (hGK hR.not).own
              refine wp_append_lies _ (.tmp 38) (.tmp 47) 29 (by rfl) base 9 i0 _ 1 16 Tryz.underlying29 hi0 hz0 hz1 hz2 (by rfl) (by omega) (.slice A n cap) (n) (strsV ss) ?_ hown ⟨g_10, 0, none⟩ 1 1 [.string ⟨s_10.toArray⟩] ?_ (by rfl) (World.news_of_block (cs := #[.string ⟨s_10.toArray⟩]) (t := 9) (fr := (0, 0)) b10_0) (by simp [Value.oneCell']) (by omega) (by simp [maxLen]; omega) (by omega) (by omega) zw1.heap.size rfl ?_
              · show a.tmps.getD 38 undef = _; simp [ze38, zf1]
              · show a.tmps.getD 47 undef = _; simp [ze47, zf10]
              intro g5 cap5 zw2 hown5 hgrow hat hlt5
              have hT := mod_grown hgrow
              have hTb : ∀ j, (.slice A n cap : Value).ownBlock = some j → base ≤ j := own_block hown
              refine hK _ _ (InvF.last (GB.writes hI.1 (fun j hj => by have := hTb j hj; omega) (fun j hj hl => by have := hTb j hj; omega) hT (by have hn := hR.not; simp [upd, hn] <;> omega) ⟨fun hs => absurd hs (by rw [upd_same]; decide), hG1.mod hT (fun h => by have := hTb _ h; omega)⟩) ⟨_, _, s_10, upd_same V 11 _, c10_0, (hGK hR.not).rew hT (by simpa [strsV] using hown5)⟩ ?_)
              intro k hk hDk hlv
              have hkl := hR.lt k hDk
              have hv := hI.2 k hDk (liveB_of hlv)
              match k, hk, hDk, hlv, hkl, hv with
              | 0, _, _, _, _, hv => exact hv
              | 1, _, _, _, _, hv => exact hv
              | 2, _, _, _, _, hv => exact hv
              | 3, _, _, _, _, hv => exact hv
              | 4, _, _, _, _, hv => exact hv
              | 5, _, _, _, _, hv => exact hv
              | 6, _, _, _, _, hv => exact hv
              | 7, _, _, _, _, hv => exact hv
              | 8, _, _, _, _, hv => exact hv
              | 9, _, _, _, _, hv => exact hv
              | 10, _, _, hlv, _, _ => exact absurd hlv (by show ¬ (!upd D 11 true 11) = true; rw [upd_same]; decide)
              | 11, hk, _, _, _, _ => exact absurd rfl hk
              | 12, _, _, _, _, hv => exact hv
              | 13, _, hDk, _, _, _ => exact absurd hDk (by rw [hR.later 13 rfl (by kernel_rfl)]; decide)
              | k + 14, _, _, _, hkl, _ => exact absurd hkl (by simp)
            · intro D V zw1 a hR hI K hK
              obtain ⟨hS1, hM1, hB1, hG1⟩ := hI.1
              obtain ⟨hGK, hG1⟩ := hG1
              have ze5 := hR.frame.other (t := 5) (by kernel_rfl) rfl
              rw [if_pos (by rfl)]
              go_simp
              exact hK (.pointer (some ⟨g, 4, none⟩)) _ (hI.next hR (by kernel_rfl) (Mod.refl _ _) (GB.quiet hI.1 (Mod.refl _ _) (by have hn := hR.not; simp [upd, hn] <;> omega) (HGs.out D 12 zw1 zw1 (by omega) (hI.1).g (Mod.refl _ _))) (upd_same V 12 _))
            · intro D V zw1 a hR hI K hK
              obtain ⟨hS1, hM1, hB1, hG1⟩ := hI.1
              obtain ⟨hGK, hG1⟩ := hG1
              have zd12 := hR.pred 12 (by kernel_rfl)
              have zF12 : V 12 = .pointer (some ⟨g, 4, none⟩) := hI.2 12 zd12 rfl
              have zf12 := zF12; clear zF12
              have zd11 := hR.pred 11 (by kernel_rfl)
              have zF11 : ∃ (g_11 : Nat) (c_11 : Nat) (s_11 : Str), V 11 = .slice (some ⟨g_11, 0, none⟩) (n + 1) c_11 ∧ s_11.length ≤ 1000 ∧ FilQ zw1 b g gr base (.slice A n cap) (.slice (some ⟨g_11, 0, none⟩) (n + 1) c_11) (n + 1) (ss ++ [s_11]) := hI.2 11 zd11 (by show (!D 13) = true; rw [hR.not]; rfl)
              obtain ⟨g_11, c_11, s_11, zf11, c11_0, b11_0⟩ := zF11
              have ze49 := hR.frame.done (t := 49) (j := 12) (by kernel_rfl) hR.ok zd12
              have ze48 := hR.frame.done (t := 48) (j := 11) (by kernel_rfl) hR.ok zd11
              rw [if_pos (by rfl)]
              have hP := b11_0
              have zx0 := hP.cell
              have zy0 := hP.frozen 4
              have hSt := hP.store
              go_simp
              refine hK undef _ (InvF.last ⟨(hS1.setCell (by show b < g; omega) _).more (by have hn := hR.not; simp [upd, hn] <;> omega), hM1.setCell (.inr (by show _ ≤ g; omega)) _, (by simpa using hB1), ⟨fun hs => absurd hs (by rw [upd_ne _ _ (by omega), hR.pred 11 (by kernel_rfl)]; decide), hG1.mod ((Mod.refl (· = g) _).setCell (.inl rfl) _) (by show ¬ gl = g; omega)⟩⟩ ⟨upd_same _ 13 _, _, _, _, c11_0, hSt⟩ ?_)
              intro k hk hDk hlv
              have hkl := hR.lt k hDk
              have hv := hI.2 k hDk (liveB_of hlv)
              match k, hk, hDk, hlv, hkl, hv with
              | 0, _, _, _, _, hv => exact hv
              | 1, _, _, _, _, hv => exact hv
              | 2, _, _, _, _, hv => exact hv
              | 3, _, _, _, _, hv => exact hv
              | 4, _, _, _, _, hv => exact hv
              | 5, _, _, _, _, hv => exact hv
              | 6, _, _, _, _, hv => exact hv
              | 7, _, _, _, _, hv => exact hv
              | 8, _, _, _, _, hv => exact hv
              | 9, _, _, _, _, hv => exact hv
              | 10, _, _, hlv, _, _ => exact absurd hlv (by show ¬ (!upd D 13 true 11) = true; rw [upd_ne _ _ (by omega), hR.pred 11 (by kernel_rfl)]; decide)
              | 11, _, _, hlv, _, _ => exact absurd hlv (by show ¬ (!upd D 13 true 13) = true; rw [upd_same]; decide)
              | 12, _, _, _, _, hv => exact hv
              | 13, hk, _, _, _, _ => exact absurd rfl hk
              | k + 14, _, _, _, hkl, _ => exact absurd hkl (by simp)
          · intro D V w5 hD hI
            obtain ⟨hS1, hM1, hB1, hG1⟩ := hI.1
            have hSx : Strm w5 b (N1 + 1) := hS1.more (by show _ ≤ _; have := Bool.toNat_le (D 6); omega)
            clear hS1
            have hMx := hM1
            clear hM1
            have hBx := hB1
            clear hB1
            have hGx := hG1.2
            clear hG1
            have zF0 : V 0 = .pointer (some ⟨g, 4, none⟩) := hI.2 0 (hD 0 (by decide)) rfl
            have zf0 := zF0; clear zF0
            have zF1 : V 1 = .slice A n cap := hI.2 1 (hD 1 (by decide)) rfl
            have zf1 := zF1; clear zF1
            have zF2 : V 2 = .slice (some ⟨gl, off, none⟩) l.length cl := hI.2 2 (hD 2 (by decide)) rfl
            have zf2 := zF2; clear zF2
            have zF3 : V 3 = .pointer (some ⟨b, 0, none⟩) := hI.2 3 (hD 3 (by decide)) rfl
            have zf3 := zF3; clear zF3
            have zF4 : V 4 = .slice (some ⟨gl, off, none⟩) l.length cl := hI.2 4 (hD 4 (by decide)) rfl
            have zf4 := zF4; clear zF4
            have zF5 : V 5 = .int .i64 (l.length : Int) := hI.2 5 (hD 5 (by decide)) rfl
            have zf5 := zF5; clear zF5
            have zF6 : ∃ (q_6 : Nat), V 6 = .int .i64 (q_6 : Int) ∧ q_6 < l.length := hI.2 6 (hD 6 (by decide)) rfl
            obtain ⟨q_6, zf6, c6_0⟩ := zF6
            have zF7 : ∃ (q_7 : Nat), V 7 = .pointer (some ⟨gl, off + q_7 * 7, none⟩) ∧ q_7 < l.length := hI.2 7 (hD 7 (by decide)) rfl
            obtain ⟨q_7, zf7, c7_0⟩ := zF7
            have zF8 : ∃ (x_8 : Itm), V 8 = .agg #[.string ⟨x_8.id.toArray⟩, .string ⟨x_8.cust.toArray⟩, .int .i64 x_8.kind, .string ⟨x_8.name.toArray⟩, .int .i64 x_8.tm, .string ⟨x_8.par.toArray⟩, .string ⟨x_8.text.toArray⟩] ∧ x_8 ∈ l := hI.2 8 (hD 8 (by decide)) rfl
            obtain ⟨x_8, zf8, c8_0⟩ := zF8
            have zF9 : ∃ (s_9 : Str), V 9 = .string ⟨s_9.toArray⟩ ∧ s_9.length ≤ 1000 := hI.2 9 (hD 9 (by decide)) rfl
            obtain ⟨s_9, zf9, c9_0⟩ := zF9
            have zF12 : V 12 = .pointer (some ⟨g, 4, none⟩) := hI.2 12 (hD 12 (by decide)) rfl
            have zf12 := zF12; clear zF12
            have zF13 : V 13 = undef ∧ FilEx w5 b g gr base n ss := hI.2 13 (hD 13 (by decide)) rfl
            obtain ⟨zf13, b13_0⟩ := zF13
            clear hI hD HGs
            simp only [frAll, Act.put, List.setIfInBounds_toArray, List.set_cons_zero, List.set_cons_succ, Nat.zero_add, Nat.reduceAdd, zf0, zf1, zf2, zf3, zf4, zf5, zf6, zf7, zf8, zf9, zf12, zf13]
            clear zf0 zf1 zf2 zf3 zf4 zf5 zf6 zf7 zf8 zf9 zf12 zf13
            generalize V 10 = u10
            generalize V 11 = u11
            clear V D
            obtain ⟨g5, c5, s5, hs5, hQ5⟩ := b13_0
            have HQ5 := Lib.hid hQ5
            have HSZ5 : Hid (∀ s ∈ ss ++ [s5], s.length ≤ 1000) := Lib.hid (fun s hs => by
              rcases List.mem_append.1 hs with hs | hs
              · exact HSZ.out s hs
              · rw [List.mem_singleton.1 hs]; exact hs5)
            clear hQ5 HQ4
            go_wp2_with fail
            go_roundg (r - (k + 1))
            case measure => omega
            case rel => exact ⟨k + 1, c5, n + 1, _, ss ++ [s5], rfl, hlt, by simp, by omega, HSZ5.out, HQ5.out, hSx.more (by omega), hMx⟩
      · obtain rfl : k = r := by omega
        have HQ4 := Lib.hid hQ
        have zx0 := hQ.cell
        have zy0 := hQ.frozen 4
        have hown := hQ.own
        have hln : ss.length = n := by have := hown.1; simpa [strsV] using this
        have HSO := Lib.hid (sortS_callsL wr (.slice A n cap) n base ss hown (by omega))
        clear hQ hown HROW HZ HKD HNB
        go_wp2_with fail
        refine HSO.out.mono ?_
        rintro e w5 ⟨rfl, hown5, hm5⟩
        have HQ5 := Lib.hid (HQ4.out.rew hm5 (v5 := .slice A n cap) (n5 := n) (by simpa [hln] using hown5))
        have HSZ5 : Hid (∀ s ∈ (ss.mergeSort fun x y => decide (x ≤ y)), s.length ≤ 1000) := Lib.hid (fun s hs => HSZ.out s (by simpa using hs))
        have hlen5 : (ss.mergeSort fun x y => decide (x ≤ y)).length = n := by simp [hln]
        have hSx5 := hS4.mod hm5 (fun i hi h => by have := own_block HQ4.out.own i h; have := HQ4.out.lts; omega)
        have m5 : Mod (· = b) w w5 := m4.trans' hm5 (fun i h hi => by have := own_block HQ4.out.own i h; have := HQ4.out.lts; omega)
        clear HQ4 HSO hm5 m4 hS4 zx0 zy0 HSZ hown5 hln
        generalize (ss.mergeSort fun x y => decide (x ≤ y)) = ss5 at *
        have zx0 := HQ5.out.cell
        have zy0 := HQ5.out.frozen 4
        have HCO := Lib.hid (compactA_calls w5 A n cap base ss5 HQ5.out.own (by omega))
        go_wp2_with fail
        refine HCO.out.mono ?_
        rintro e w6 ⟨A6, n6, ss6, rfl, hown6, hm6, hn6, hc6⟩
        have HSZ6 : Hid (∀ s ∈ ss6, s.length ≤ 1000) := Lib.hid (fun s hs => by rw [hc6] at hs; exact HSZ5.out s (compact_memL _ s hs))
        have HQ6 := Lib.hid (HQ5.out.rew hm6 hown6)
        have hS6 := hSx5.mod hm6 (fun i hi h => by have := own_block HQ5.out.own i h; have := HQ5.out.lts; omega)
        have m6 : Mod (· = b) w w6 := m5.trans' hm6 (fun i h hi => by have := own_block HQ5.out.own i h; have := HQ5.out.lts; omega)
        clear HQ5 HCO hm6 zx0 zy0 HSZ5 hown6 hc6 hSx5 m5
        have zx0 := HQ6.out.cell
        have zy0 := HQ6.out.frozen 4
        have hg6 : g < w6.heap.size := by have := HQ6.out.lts; omega
        go_wp2_with fail
        have HQ7 := Lib.hid HQ6.out.store
        have hS7 : Strm (w6.setCell ⟨g, 4, none⟩ (.slice A6 n6 cap)) b (N + 6 + k) := hS6.setCell (by show b < g; omega) _
        have m7 : Mod (· = b) w (w6.setCell ⟨g, 4, none⟩ (.slice A6 n6 cap)) := m6.setCell (.inr (by show w.heap.size ≤ g; omega)) _
        clear HQ6 hS6 m6 zx0 zy0 hg6
        generalize (w6.setCell ⟨g, 4, none⟩ (.slice A6 n6 cap)) = w7 at *
        refine (flip_calls _ b _ _ hS7 (by omega) (by omega) (by omega)).mono ?_
        rintro e w8 ⟨fl, rfl, hS8, hM8⟩
        have HQ8 := Lib.hid (HQ7.out.ask hM8)
        have m8 := m7.trans hM8
        clear HQ7 hS7 m7 hM8
        go_upto_if 59 with (fail)
        go_cut [] (fun wx => FilF wx g gr ∧ Strm wx b (N + 300) ∧ Mod (· = b) w wx)
        case first =>
          cases fl
          · go_wp2_with fail
            go_meet
            exact ⟨HQ8.out.fin (by omega) HSZ6.out, hS8.more (by omega), m8⟩
          go_wp2_with fail
          refine (next_calls _ b _ _ hS8 (by omega) (by omega) (by omega)).mono ?_
          rintro e w9 ⟨z, hz0, hz1, rfl, hS9, hM9⟩
          have HQ9 := Lib.hid (HQ8.out.ask hM9)
          have m9 := m8.trans hM9
          have hbl9 := hS9.lt
          clear HQ8 m8 hM9 hS8
          by_cases k0 : z = 0
          · subst k0
            go_wp2_with fail
            refine (next_calls _ b _ _ (((((hS9.alloc _).alloc _).alloc _).alloc _).alloc _) (by omega) (by omega) (by omega)).mono ?_
            rintro e w10 ⟨q, hq0, hq1, rfl, hS10, hM10⟩
            obtain ⟨q, rfl⟩ := Int.eq_ofNat_of_zero_le hq0
            have hK := (badKinds w9 b hbl9).mod hM10
            have hA : Mod (· = b) w9 w10 := ((((((Mod.refl (· = b) w9).alloc _).alloc _).alloc _).alloc _).alloc _).trans hM10
            obtain ⟨v0, hv0, hk0⟩ := hK.at_ (show q < 4 by omega)
            obtain ⟨A0, n0, rfl⟩ := hk0.form
            obtain ⟨ks, hks, hsl⟩ := hk0.sl
            have HSL := Lib.hid hsl
            have HF := Lib.hid ((HQ9.out.ask hA).fin (by omega) HSZ6.out)
            have m10 := m9.trans hA
            obtain ⟨_, f, vk, vc, vs, hB, _⟩ := HF.out
            have c0 := hB.cell 0; have cf0 := hB.frozen 0; have c1 := hB.cell 1; have cf1 := hB.frozen 1; have c2 := hB.cell 2; have cf2 := hB.frozen 2; have c3 := hB.cell 3; have cf3 := hB.frozen 3; have c4 := hB.cell 4; have cf4 := hB.frozen 4; simp at c0 c1 c2 c3 c4
            clear hB hsl hk0 hK hM10 hA HQ9 m9 hS9 hq0
            go_wp2_with fail
            go_meet
            exact ⟨HF.out.kinds HSL.out (by omega), (hS10.setCell (by show b < g; omega) _).more (by omega), m10.setCell (.inr (by show w.heap.size ≤ g; omega)) _⟩
          have k0' : (z == 0) = false := by simpa using k0
          by_cases k1 : z = 1
          · subst k1
            go_wp2_with fail
            refine (next_calls _ b _ _ ((((hS9.alloc _).alloc _).alloc _).alloc _) (by omega) (by omega) (by omega)).mono ?_
            rintro e w10 ⟨q, hq0, hq1, rfl, hS10, hM10⟩
            obtain ⟨q, rfl⟩ := Int.eq_ofNat_of_zero_le hq0
            have hK := (badCusts w9 b hbl9).mod hM10
            have hA : Mod (· = b) w9 w10 := (((((Mod.refl (· = b) w9).alloc _).alloc _).alloc _).alloc _).trans hM10
            obtain ⟨v0, hv0, hk0⟩ := hK.at_ (show q < 3 by omega)
            obtain ⟨A0, n0, rfl⟩ := hk0.form
            obtain ⟨ks, hks, hkz, hsl⟩ := hk0.sl
            have HSL := Lib.hid hsl
            have HKZ := Lib.hid hkz
            have HF := Lib.hid ((HQ9.out.ask hA).fin (by omega) HSZ6.out)
            have m10 := m9.trans hA
            obtain ⟨_, f, vk, vc, vs, hB, _⟩ := HF.out
            have c0 := hB.cell 0; have cf0 := hB.frozen 0; have c1 := hB.cell 1; have cf1 := hB.frozen 1; have c2 := hB.cell 2; have cf2 := hB.frozen 2; have c3 := hB.cell 3; have cf3 := hB.frozen 3; have c4 := hB.cell 4; have cf4 := hB.frozen 4; simp at c0 c1 c2 c3 c4
            clear hB hsl hk0 hK hM10 hA HQ9 m9 hS9 hq0 hkz
            go_wp2_with fail
            go_meet
            exact ⟨HF.out.custs HSL.out (by omega) HKZ.out, (hS10.setCell (by show b < g; omega) _).more (by omega), m10.setCell (.inr (by show w.heap.size ≤ g; omega)) _⟩
          have k1' : (z == 1) = false := by simpa using k1
          by_cases k2 : z = 2
          · subst k2
            go_wp2_with fail
            refine (odd_calls _ b _ _ _ hS9 (by omega) (by omega) (by omega) (by omega)).mono ?_
            rintro e w10 ⟨zf, _, _, rfl, hS10, hM10⟩
            have HQ10 := Lib.hid (HQ9.out.ask hM10)
            have m10 := m9.trans hM10
            clear hM10 HQ9 m9 hS9
            have hbl10 := hS10.lt
            go_wp2_with fail
            refine (pickv_calls _ b _ w10.heap.size _ _ #[.int .i64 5, .int .i64 5761440, .int .i64 5761441] (hS10.alloc _) (Blk.new _ _ _) (by omega) (by omega) rfl (by decide) (by decide) rfl).mono ?_
            rintro e w11 ⟨zt, _, rfl, hS11, hM11⟩
            have hA : Mod (· = b) w10 w11 := ((Mod.refl (· = b) w10).alloc _).trans hM11
            have HF := Lib.hid ((HQ10.out.ask hA).fin (by omega) HSZ6.out)
            have m11 := m10.trans hA
            obtain ⟨_, f, vk, vc, vs, hB, _⟩ := HF.out
            have c0 := hB.cell 0; have cf0 := hB.frozen 0; have c1 := hB.cell 1; have cf1 := hB.frozen 1; have c2 := hB.cell 2; have cf2 := hB.frozen 2; have c3 := hB.cell 3; have cf3 := hB.frozen 3; have c4 := hB.cell 4; have cf4 := hB.frozen 4; simp at c0 c1 c2 c3 c4
            clear hB hM11 hA HQ10 m10 hS10
            go_wp2_with fail
            go_meet
            exact ⟨HF.out.win zf zt, ((hS11.setCell (by show b < g; omega) _).setCell (by show b < g; omega) _).more (by omega), (m11.setCell (.inr (by show w.heap.size ≤ g; omega)) _).setCell (.inr (by show w.heap.size ≤ g; omega)) _⟩
          have k2' : (z == 2) = false := by simpa using k2
          clear k0 k1 k2
          obtain ⟨_, _, hgbs, _⟩ := HLT.out
          have hbw := HQ9.out.lts.2.2.2
          obtain ⟨i0, hi0, hz0, hz1, hz2⟩ := info_parts info_str0
          have HOL := Lib.hid (fun i hi => (HQ9.out.own.lt i hi).2)
          go_upto_region 11 with (fail)
          obtain ⟨N1, hN1⟩ : ∃ N1, N1 = N + 6 + k + 1 + 1 := ⟨_, rfl⟩
          rw [← hN1] at hS9
          have hN1a := Nat.le_of_eq hN1
          have hN1b := Nat.le_of_eq hN1.symm
          clear hN1
          have HGs := Lib.hid (show ∀ (D : Nat → Bool) (zzi : Nat) (zq zq' : World), zzi ≠ 8 → (fun D zq => (D 8 = false → (fun Z => FilQ Z b g gr base (.slice A6 n6 cap) (.slice A6 n6 cap) n6 ss6) zq) ∧ (fun Z => True) zq) D zq → Mod (· = b) zq zq' → (fun D zq => (D 8 = false → (fun Z => FilQ Z b g gr base (.slice A6 n6 cap) (.slice A6 n6 cap) n6 ss6) zq) ∧ (fun Z => True) zq) (upd D zzi true) zq' from by intro D zzi zq zq' hi hh hm; refine ⟨fun hs => ?_, ?_⟩; (rw [upd_ne _ _ (Ne.symm hi)] at hs; have h := hh.1 hs; (exact h.ask hm)); (have h := hh.2; (trivial)))
          refine wp_region_inv (by kernel_rfl) (by kernel_rfl) (InvF (R := Mod (· = b)) [.is (.pointer (some ⟨g, 4, none⟩)),
              .is (.slice A6 n6 cap),
              .is (.pointer (some ⟨b, 0, none⟩)),
              .val (fun zv => ∃ (s_3 : Str), zv = .string ⟨s_3.toArray⟩ ∧ s_3.length ≤ 1000),
              .val (fun zv => ∃ (s_4 : Str), zv = .string ⟨s_4.toArray⟩ ∧ s_4.length ≤ 1000),
              ⟨fun zv zw => ∃ (s_5 : Str) (sa_5 : Str) (g_5 : Nat), zv = .slice (some ⟨g_5, 0, none⟩) 3 3 ∧ s_5.length ≤ 1000 ∧ sa_5.length ≤ 1000 ∧ w9.heap.size ≤ g_5 ∧ Blk zw g_5 9 #[(.string { data := #[48] }), .string ⟨s_5.toArray⟩, .string ⟨sa_5.toArray⟩], (by rintro zv zw zx ⟨s_5, sa_5, g_5, rfl, c0, c1, c2, q0⟩ hm; exact ⟨s_5, sa_5, g_5, rfl, c0, c1, c2, (q0.modb hm (by omega))⟩), none, some 6⟩,
              .val (fun zv => ∃ (s_6 : Str), zv = .string ⟨s_6.toArray⟩ ∧ s_6.length ≤ 1000),
              ⟨fun zv zw => ∃ (s_7 : Str) (g_7 : Nat), zv = .slice (some ⟨g_7, 0, none⟩) 1 1 ∧ s_7.length ≤ 1000 ∧ w9.heap.size ≤ g_7 ∧ Blk zw g_7 9 #[.string ⟨s_7.toArray⟩], (by rintro zv zw zx ⟨s_7, g_7, rfl, c0, c1, q0⟩ hm; exact ⟨s_7, g_7, rfl, c0, c1, (q0.modb hm (by omega))⟩), none, some 8⟩,
              ⟨fun zv zw => ∃ (g_8 : Nat) (c_8 : Nat) (s_8 : Str), zv = .slice (some ⟨g_8, 0, none⟩) (n6 + 1) c_8 ∧ s_8.length ≤ 1000 ∧ FilQ zw b g gr base (.slice A6 n6 cap) (.slice (some ⟨g_8, 0, none⟩) (n6 + 1) c_8) (n6 + 1) (ss6 ++ [s_8]), (by rintro zv zw zx ⟨g_8, c_8, s_8, rfl, c0, q0⟩ hm; exact ⟨g_8, c_8, s_8, rfl, c0, (q0.ask hm)⟩), none, some 10⟩,
              .is (.pointer (some ⟨g, 4, none⟩)),
              ⟨fun zv zw => zv = undef ∧ FilEx zw b g gr base n6 ss6, (by rintro zv zw zx ⟨rfl, q0⟩ hm; exact ⟨rfl, (q0.ask hm)⟩), none, none⟩]
              (GB w (· = b) w9.heap.size b (N1) (fun D => (D 6).toNat) (fun D zq => (D 8 = false → (fun Z => FilQ Z b g gr base (.slice A6 n6 cap) (.slice A6 n6 cap) n6 ss6) zq) ∧ (fun Z => True) zq))) (InvF.start (GB.start hS9 m9 (Nat.le_refl _) (⟨fun _ => HQ9.out.ask ((Mod.refl _ _).drew), trivial⟩))) ?_ ?_
          · refine .cons ?_ (.cons ?_ (.cons ?_ (.cons ?_ (.cons ?_ (.cons ?_ (.cons ?_ (.cons ?_ (.cons ?_ (.cons ?_ (.cons ?_ .nil))))))))))
            · intro D V zw1 a hR hI K hK
              obtain ⟨hS1, hM1, hB1, hG1⟩ := hI.1
              obtain ⟨hGK, hG1⟩ := hG1
              have ze5 := hR.frame.other (t := 5) (by kernel_rfl) rfl
              rw [if_pos (by rfl)]
              go_simp
              exact hK (.pointer (some ⟨g, 4, none⟩)) _ (hI.next hR (by kernel_rfl) (Mod.refl _ _) (GB.quiet hI.1 (Mod.refl _ _) (by have hn := hR.not; simp [upd, hn] <;> omega) (HGs.out D 0 zw1 zw1 (by omega) (hI.1).g (Mod.refl _ _))) (upd_same V 0 _))
            · intro D V zw1 a hR hI K hK
              obtain ⟨hS1, hM1, hB1, hG1⟩ := hI.1
              obtain ⟨hGK, hG1⟩ := hG1
              have zd0 := hR.pred 0 (by kernel_rfl)
              have zF0 : V 0 = .pointer (some ⟨g, 4, none⟩) := hI.2 0 zd0 rfl
              have zf0 := zF0; clear zF0
              have ze62 := hR.frame.done (t := 62) (j := 0) (by kernel_rfl) hR.ok zd0
              have zx0 := (hGK (hR.later 8 rfl (by kernel_rfl))).cell
              rw [if_pos (by rfl)]
              go_simp
              exact hK (.slice A6 n6 cap) _ (hI.next hR (by kernel_rfl) (Mod.refl _ _) (GB.quiet hI.1 (Mod.refl _ _) (by have hn := hR.not; simp [upd, hn] <;> omega) (HGs.out D 1 zw1 zw1 (by omega) (hI.1).g (Mod.refl _ _))) (upd_same V 1 _))
            · intro D V zw1 a hR hI K hK
              obtain ⟨hS1, hM1, hB1, hG1⟩ := hI.1
              obtain ⟨hGK, hG1⟩ := hG1
              have ze0 := hR.frame.other (t := 0) (by kernel_rfl) rfl
              rw [if_pos (by rfl)]
              go_simp
              exact hK (.pointer (some ⟨b, 0, none⟩)) _ (hI.next hR (by kernel_rfl) (Mod.refl _ _) (GB.quiet hI.1 (Mod.refl _ _) (by have hn := hR.not; simp [upd, hn] <;> omega) (HGs.out D 2 zw1 zw1 (by omega) (hI.1).g (Mod.refl _ _))) (upd_same V 2 _))
            · intro D V zw1 a hR hI K hK
              obtain ⟨hS1, hM1, hB1, hG1⟩ := hI.1
              obtain ⟨hGK, hG1⟩ := hG1
              rw [if_pos (by rfl)]
              have := Bool.toNat_le (D 6)
              have hNB : N1 + ((D 6).toNat) ≤ 1000000000 := by omega
              skip
              go_simp
              refine (repeatC_calls _ 103 16 (by omega) (by omega)).mono ?_
              rintro e zw2 ⟨s_0, hs0, rfl, hm2⟩
              exact hK (.string ⟨s_0.toArray⟩) _ (hI.next hR (by kernel_rfl) (Mod.of_pure hm2) (GB.quiet hI.1 hm2 (by have hn := hR.not; simp [upd, hn] <;> omega) (HGs.out D 3 _ _ (by omega) (hI.1).g (Mod.of_pure hm2))) (⟨s_0, upd_same V 3 _, (by omega)⟩))
            · intro D V zw1 a hR hI K hK
              obtain ⟨hS1, hM1, hB1, hG1⟩ := hI.1
              obtain ⟨hGK, hG1⟩ := hG1
              rw [if_pos (by rfl)]
              have := Bool.toNat_le (D 6)
              have hNB : N1 + ((D 6).toNat) ≤ 1000000000 := by omega
              skip
              go_simp
              refine (repeatC_calls _ 48 16 (by omega) (by omega)).mono ?_
              rintro e zw2 ⟨s_0, hs0, rfl, hm2⟩
              exact hK (.string ⟨s_0.toArray⟩) _ (hI.next hR (by kernel_rfl) (Mod.of_pure hm2) (GB.quiet hI.1 hm2 (by have hn := hR.not; simp [upd, hn] <;> omega) (HGs.out D 4 _ _ (by omega) (hI.1).g (Mod.of_pure hm2))) (⟨s_0, upd_same V 4 _, (by omega)⟩))
            · intro D V zw1 a hR hI K hK
              obtain ⟨hS1, hM1, hB1, hG1⟩ := hI.1
              obtain ⟨hGK, hG1⟩ := hG1
              have zd3 := hR.pred 3 (by kernel_rfl)
              have zF3 : ∃ (s_3 : Str), V 3 = .string ⟨s_3.toArray⟩ ∧ s_3.length ≤ 1000 := hI.2 3 zd3 rfl
              obtain ⟨s_3, zf3, c3_0⟩ := zF3
              have zd4 := hR.pred 4 (by kernel_rfl)
              have zF4 : ∃ (s_4 : Str), V 4 = .string ⟨s_4.toArray⟩ ∧ s_4.length ≤ 1000 := hI.2 4 zd4 rfl
              obtain ⟨s_4, zf4, c4_0⟩ := zF4
              have ze65 := hR.frame.done (t := 65) (j := 3) (by kernel_rfl) hR.ok zd3
              have ze66 := hR.frame.done (t := 66) (j := 4) (by kernel_rfl) hR.ok zd4
              rw [if_pos (by rfl)]
              go_simp
              exact hK (_) _ (hI.next hR (by kernel_rfl) ((Mod.refl _ _).alloc _) (GB.quiet hI.1 (pure_alloc _ _) (by have hn := hR.not; simp [upd, hn] <;> omega) (HGs.out D 5 _ _ (by omega) (hI.1).g ((Mod.refl _ _).alloc _))) (⟨s_3, s_4, _, upd_same V 5 _, (by first | assumption | omega), (by first | assumption | omega), (by omega), (Blk.new _ _ _)⟩))
            · intro D V zw1 a hR hI K hK
              obtain ⟨hS1, hM1, hB1, hG1⟩ := hI.1
              obtain ⟨hGK, hG1⟩ := hG1
              have zd2 := hR.pred 2 (by kernel_rfl)
              have zF2 : V 2 = .pointer (some ⟨b, 0, none⟩) := hI.2 2 zd2 rfl
              have zf2 := zF2; clear zF2
              have zd5 := hR.pred 5 (by kernel_rfl)
              have zF5 : ∃ (s_5 : Str) (sa_5 : Str) (g_5 : Nat), V 5 = .slice (some ⟨g_5, 0, none⟩) 3 3 ∧ s_5.length ≤ 1000 ∧ sa_5.length ≤ 1000 ∧ w9.heap.size ≤ g_5 ∧ Blk zw1 g_5 9 #[(.string { data := #[48] }), .string ⟨s_5.toArray⟩, .string ⟨sa_5.toArray⟩] := hI.2 5 zd5 (by show (!D 6) = true; rw [hR.not]; rfl)
              obtain ⟨s_5, sa_5, g_5, zf5, c5_0, c5_1, c5_2, b5_0⟩ := zF5
              have ze64 := hR.frame.done (t := 64) (j := 2) (by kernel_rfl) hR.ok zd2
              have ze67 := hR.frame.done (t := 67) (j := 5) (by kernel_rfl) hR.ok zd5
              rw [if_pos (by rfl)]
              have := Bool.toNat_le (D 6)
              have hNB : N1 + ((D 6).toNat) ≤ 1000000000 := by omega
              skip
              go_simp
              refine (someb_calls _ b _ _ _ _ [[48], s_5, sa_5] 1000 rfl (le_cons (by decide) (le_cons c5_0 (le_cons c5_1 le_nil))) hS1 hNB b5_0 (by omega) (by simp) (by simp)).mono ?_
              rintro e zw2 ⟨s_0, hs, rfl, hS2, hm2⟩
              exact hK (.string ⟨s_0.toArray⟩) _ (hI.next hR (by kernel_rfl) hm2 (GB.asks hI.1 (fun _ h _ => h) hS2 hm2 (by have hn := hR.not; simp [upd, hn] <;> omega) (HGs.out D 6 _ _ (by omega) (hI.1).g hm2)) (⟨s_0, upd_same V 6 _, hs⟩))
            · intro D V zw1 a hR hI K hK
              obtain ⟨hS1, hM1, hB1, hG1⟩ := hI.1
              obtain ⟨hGK, hG1⟩ := hG1
              have zd6 := hR.pred 6 (by kernel_rfl)
              have zF6 : ∃ (s_6 : Str), V 6 = .string ⟨s_6.toArray⟩ ∧ s_6.length ≤ 1000 := hI.2 6 zd6 rfl
              obtain ⟨s_6, zf6, c6_0⟩ := zF6
              have ze68 := hR.frame.done (t := 68) (j := 6) (by kernel_rfl) hR.ok zd6
              rw [if_pos (by rfl)]
              go_simp
              exact hK (_) _ (hI.next hR (by kernel_rfl) ((Mod.refl _ _).alloc _) (GB.quiet hI.1 (pure_alloc _ _) (by have hn := hR.not; simp [upd, hn] <;> omega) (HGs.out D 7 _ _ (by omega) (hI.1).g ((Mod.refl _ _).alloc _))) (⟨s_6, _, upd_same V 7 _, (by first | assumption | omega), (by omega), (Blk.new _ _ _)⟩))
            · intro D V zw1 a hR hI K hK
              obtain ⟨hS1, hM1, hB1, hG1⟩ := hI.1
              obtain ⟨hGK, hG1⟩ := hG1
              have zd1 := hR.pred 1 (by kernel_rfl)
              have zF1 : V 1 = .slice A6 n6 cap := hI.2 1 zd1 rfl
              have zf1 := zF1; clear zF1
              have zd7 := hR.pred 7 (by kernel_rfl)
              have zF7 : ∃ (s_7 : Str) (g_7 : Nat), V 7 = .slice (some ⟨g_7, 0, none⟩) 1 1 ∧ s_7.length ≤ 1000 ∧ w9.heap.size ≤ g_7 ∧ Blk zw1 g_7 9 #[.string ⟨s_7.toArray⟩] := hI.2 7 zd7 (by show (!D 8) = true; rw [hR.not]; rfl)
              obtain ⟨s_7, g_7, zf7, c7_0, c7_1, b7_0⟩ := zF7
              have ze63 := hR.frame.done (t := 63) (j := 1) (by kernel_rfl) hR.ok zd1
              have ze69 := hR.frame.done (t := 69) (j := 7) (by kernel_rfl) hR.ok zd7
              rw [if_pos (by rfl)]
              have hown := (hGK hR.not).own
              refine wp_append_lies _ (.tmp 63) (.tmp 69) 29 (by rfl) base 9 i0 _ 1 16 Tryz.underlying29 hi0 hz0 hz1 hz2 (by rfl) (by omega) (.slice A6 n6 cap) (n6) (strsV ss6) ?_ hown ⟨g_7, 0, none⟩ 1 1 [.string ⟨s_7.toArray⟩] ?_ (by rfl) (World.news_of_block (cs := #[.string ⟨s_7.toArray⟩]) (t := 9) (fr := (0, 0)) b7_0) (by simp [Value.oneCell']) (by omega) (by simp [maxLen]; omega) (by omega) (by omega) zw1.heap.size rfl ?_
              · show a.tmps.getD 63 undef = _; simp [ze63, zf1]
              · show a.tmps.getD 69 undef = _; simp [ze69, zf7]
              intro g5 cap5 zw2 hown5 hgrow hat hlt5
              have hT := mod_grown hgrow
              have hTb : ∀ j, (.slice A6 n6 cap : Value).ownBlock = some j → base ≤ j := own_block hown
              have hTl : ∀ j, (.slice A6 n6 cap : Value).ownBlock = some j → j < w9.heap.size := HOL.out
              refine hK _ _ (InvF.last (GB.writes hI.1 (fun j hj => by have := hTb j hj; omega) (fun j hj hl => by have := hTb j hj; omega) hT (by have hn := hR.not; simp [upd, hn] <;> omega) ⟨fun hs => absurd hs (by rw [upd_same]; decide), trivial⟩) ⟨_, _, s_7, upd_same V 8 _, c7_0, (hGK hR.not).rew hT (by simpa [strsV] using hown5)⟩ ?_)
              intro k hk hDk hlv
              have hkl := hR.lt k hDk
              have hv := hI.2 k hDk (liveB_of hlv)
              match k, hk, hDk, hlv, hkl, hv with
              | 0, _, _, _, _, hv => exact hv
              | 1, _, _, _, _, hv => exact hv
              | 2, _, _, _, _, hv => exact hv
              | 3, _, _, _, _, hv => exact hv
              | 4, _, _, _, _, hv => exact hv
              | 5, _, _, _, _, hv =>
                have hv2 : ∃ (s_5 : Str) (sa_5 : Str) (g_5 : Nat), V 5 = .slice (some ⟨g_5, 0, none⟩) 3 3 ∧ s_5.length ≤ 1000 ∧ sa_5.length ≤ 1000 ∧ w9.heap.size ≤ g_5 ∧ Blk zw1 g_5 9 #[(.string { data := #[48] }), .string ⟨s_5.toArray⟩, .string ⟨sa_5.toArray⟩] := hv
                obtain ⟨s_5, sa_5, g_5, zff, zcc0, zcc1, zcc2, zbb0⟩ := hv2
                exact ⟨s_5, sa_5, g_5, zff, zcc0, zcc1, zcc2, zbb0.mod hT (fun hj => by have := hTl _ hj; omega)⟩
              | 6, _, _, _, _, hv => exact hv
              | 7, _, _, hlv, _, _ => exact absurd hlv (by show ¬ (!upd D 8 true 8) = true; rw [upd_same]; decide)
              | 8, hk, _, _, _, _ => exact absurd rfl hk
              | 9, _, _, _, _, hv => exact hv
              | 10, _, hDk, _, _, _ => exact absurd hDk (by rw [hR.later 10 rfl (by kernel_rfl)]; decide)
              | k + 11, _, _, _, hkl, _ => exact absurd hkl (by simp)
            · intro D V zw1 a hR hI K hK
              obtain ⟨hS1, hM1, hB1, hG1⟩ := hI.1
              obtain ⟨hGK, hG1⟩ := hG1
              have ze5 := hR.frame.other (t := 5) (by kernel_rfl) rfl
              rw [if_pos (by rfl)]
              go_simp
              exact hK (.pointer (some ⟨g, 4, none⟩)) _ (hI.next hR (by kernel_rfl) (Mod.refl _ _) (GB.quiet hI.1 (Mod.refl _ _) (by have hn := hR.not; simp [upd, hn] <;> omega) (HGs.out D 9 zw1 zw1 (by omega) (hI.1).g (Mod.refl _ _))) (upd_same V 9 _))
            · intro D V zw1 a hR hI K hK
              obtain ⟨hS1, hM1, hB1, hG1⟩ := hI.1
              obtain ⟨hGK, hG1⟩ := hG1
              have zd9 := hR.pred 9 (by kernel_rfl)
              have zF9 : V 9 = .pointer (some ⟨g, 4, none⟩) := hI.2 9 zd9 rfl
              have zf9 := zF9; clear zF9
              have zd8 := hR.pred 8 (by kernel_rfl)
              have zF8 : ∃ (g_8 : Nat) (c_8 : Nat) (s_8 : Str), V 8 = .slice (some ⟨g_8, 0, none⟩) (n6 + 1) c_8 ∧ s_8.length ≤ 1000 ∧ FilQ zw1 b g gr base (.slice A6 n6 cap) (.slice (some ⟨g_8, 0, none⟩) (n6 + 1) c_8) (n6 + 1) (ss6 ++ [s_8]) := hI.2 8 zd8 (by show (!D 10) = true; rw [hR.not]; rfl)
              obtain ⟨g_8, c_8, s_8, zf8, c8_0, b8_0⟩ := zF8
              have ze71 := hR.frame.done (t := 71) (j := 9) (by kernel_rfl) hR.ok zd9
              have ze70 := hR.frame.done (t := 70) (j := 8) (by kernel_rfl) hR.ok zd8
              rw [if_pos (by rfl)]
              have hP := b8_0
              have zx0 := hP.cell
              have zy0 := hP.frozen 4
              have hSt := hP.store
              go_simp
              refine hK undef _ (InvF.last ⟨(hS1.setCell (by show b < g; omega) _).more (by have hn := hR.not; simp [upd, hn] <;> omega), hM1.setCell (.inr (by show _ ≤ g; omega)) _, (by simpa using hB1), ⟨fun hs => absurd hs (by rw [upd_ne _ _ (by omega), hR.pred 8 (by kernel_rfl)]; decide), trivial⟩⟩ ⟨upd_same _ 10 _, _, _, _, c8_0, hSt⟩ ?_)
              intro k hk hDk hlv
              have hkl := hR.lt k hDk
              have hv := hI.2 k hDk (liveB_of hlv)
              match k, hk, hDk, hlv, hkl, hv with
              | 0, _, _, _, _, hv => exact hv
              | 1, _, _, _, _, hv => exact hv
              | 2, _, _, _, _, hv => exact hv
              | 3, _, _, _, _, hv => exact hv
              | 4, _, _, _, _, hv => exact hv
              | 5, _, _, hlv, _, _ => exact absurd hlv (by show ¬ (!upd D 10 true 6) = true; rw [upd_ne _ _ (by omega), hR.pred 6 (by kernel_rfl)]; decide)
              | 6, _, _, _, _, hv => exact hv
              | 7, _, _, hlv, _, _ => exact absurd hlv (by show ¬ (!upd D 10 true 8) = true; rw [upd_ne _ _ (by omega), hR.pred 8 (by kernel_rfl)]; decide)
              | 8, _, _, hlv, _, _ => exact absurd hlv (by show ¬ (!upd D 10 true 10) = true; rw [upd_same]; decide)
              | 9, _, _, _, _, hv => exact hv
              | 10, hk, _, _, _, _ => exact absurd rfl hk
              | k + 11, _, _, _, hkl, _ => exact absurd hkl (by simp)
          · intro D V w5 hD hI
            obtain ⟨hS1, hM1, hB1, hG1⟩ := hI.1
            have hSx : Strm w5 b (N1 + 1) := hS1.more (by show _ ≤ _; have := Bool.toNat_le (D 6); omega)
            clear hS1
            have hMx := hM1
            clear hM1
            have hBx := hB1
            clear hB1
            have hGx := hG1.2
            clear hG1
            have zF0 : V 0 = .pointer (some ⟨g, 4, none⟩) := hI.2 0 (hD 0 (by decide)) rfl
            have zf0 := zF0; clear zF0
            have zF1 : V 1 = .slice A6 n6 cap := hI.2 1 (hD 1 (by decide)) rfl
            have zf1 := zF1; clear zF1
            have zF2 : V 2 = .pointer (some ⟨b, 0, none⟩) := hI.2 2 (hD 2 (by decide)) rfl
            have zf2 := zF2; clear zF2
            have zF3 : ∃ (s_3 : Str), V 3 = .string ⟨s_3.toArray⟩ ∧ s_3.length ≤ 1000 := hI.2 3 (hD 3 (by decide)) rfl
            obtain ⟨s_3, zf3, c3_0⟩ := zF3
            have zF4 : ∃ (s_4 : Str), V 4 = .string ⟨s_4.toArray⟩ ∧ s_4.length ≤ 1000 := hI.2 4 (hD 4 (by decide)) rfl
            obtain ⟨s_4, zf4, c4_0⟩ := zF4
            have zF6 : ∃ (s_6 : Str), V 6 = .string ⟨s_6.toArray⟩ ∧ s_6.length ≤ 1000 := hI.2 6 (hD 6 (by decide)) rfl
            obtain ⟨s_6, zf6, c6_0⟩ := zF6
            have zF9 : V 9 = .pointer (some ⟨g, 4, none⟩) := hI.2 9 (hD 9 (by decide)) rfl
            have zf9 := zF9; clear zF9
            have zF10 : V 10 = undef ∧ FilEx w5 b g gr base n6 ss6 := hI.2 10 (hD 10 (by decide)) rfl
            obtain ⟨zf10, b10_0⟩ := zF10
            clear hI hD HGs
            simp only [frAll, Act.put, List.setIfInBounds_toArray, List.set_cons_zero, List.set_cons_succ, Nat.zero_add, Nat.reduceAdd, zf0, zf1, zf2, zf3, zf4, zf6, zf9, zf10]
            clear zf0 zf1 zf2 zf3 zf4 zf6 zf9 zf10
            generalize V 5 = u5
            generalize V 7 = u7
            generalize V 8 = u8
            clear V D
            obtain ⟨g5, c5, s5, hs5, hQ5⟩ := b10_0
            have HQ5 := Lib.hid hQ5
            have HSZ5 : Hid (∀ s ∈ ss6 ++ [s5], s.length ≤ 1000) := Lib.hid (fun s hs => by
              rcases List.mem_append.1 hs with hs | hs
              · exact HSZ6.out s hs
              · rw [List.mem_singleton.1 hs]; exact hs5)
            clear hQ5 HQ9
            go_wp2_with fail
            go_meet
            exact ⟨HQ5.out.fin (by omega) HSZ5.out, hSx.more (by omega), hMx⟩
        case rest =>
          obtain ⟨hF, hS9, m9⟩ := hcut
          obtain ⟨hne, f, A1, A2, A3, n1, c1, n2, c2, n3, c3, hB, hG, hfb, hV⟩ := hF.blk
          have HV := Lib.hid hV
          have HFB := Lib.hid hfb
          clear hF hV hfb HQ8 hS8 m8
          unfold fil0 at hG
          have HGE := Lib.hid ((((((hG.set 0 (.slice A1 n1 c1)).set 1 (.slice A2 n2 c2)).set 2 (.int .i64 f.fr)).set 3 (.int .i64 f.tl)).set 4 (.slice A3 n3 c3)))
          have x0 := hB.cell 0; have x1 := hB.cell 1; have x2 := hB.cell 2; have x3 := hB.cell 3; have x4 := hB.cell 4; simp at x0 x1 x2 x3 x4
          have d0 := hG.cell 0; have df0 := hG.frozen 0; have d1 := hG.cell 1; have df1 := hG.frozen 1; have d2 := hG.cell 2; have df2 := hG.frozen 2; have d3 := hG.cell 3; have df3 := hG.frozen 3; have d4 := hG.cell 4; have df4 := hG.frozen 4; simp at d0 d1 d2 d3 d4
          clear hB hG
          go_wp2_with fail
          have hGE := HGE.out
          have e0 := hGE.cell 0; have e1 := hGE.cell 1; have e2 := hGE.cell 2; have e3 := hGE.cell 3; have e4 := hGE.cell 4; simp at e0 e1 e2 e3 e4
          try simp only [Exit.inBlock, Exit.then]
          refine bodyPost_ret (v := .agg #[.slice A1 n1 c1, .slice A2 n2 c2, .int .i64 f.fr, .int .i64 f.tl, .slice A3 n3 c3]) (by simp [results, Tryz.results8, go_sem, e0, e1, e2, e3, e4]) rfl ?_
          exact ⟨f, _, _, _, rfl, HV.out _ ((((((Mod.refl (· = gr) _).setCell (.inl rfl) _).setCell (.inl rfl) _).setCell (.inl rfl) _).setCell (.inl rfl) _).setCell (.inl rfl) _), HFB.out, (((((hS9.setCell (by show b < gr; omega) _).setCell (by show b < gr; omega) _).setCell (by show b < gr; omega) _).setCell (by show b < gr; omega) _).setCell (by show b < gr; omega) _), (((((m9.setCell (.inr (by show w.heap.size ≤ gr; omega)) _).setCell (.inr (by show w.heap.size ≤ gr; omega)) _).setCell (.inr (by show w.heap.size ≤ gr; omega)) _).setCell (.inr (by show w.heap.size ≤ gr; omega)) _).setCell (.inr (by show w.heap.size ≤ gr; omega)) _)⟩

end Go.Proofs.YtofkkenmkflmiaaGreatDoor

/- The law FilterKeeps. -/
namespace Go.Proofs.YtofkkenmkflmiaaGreatDoor
set_option linter.unusedVariables false
set_option linter.unusedSimpArgs false
open Go.RowKit Go.Sort

theorem itemE_kindK {x : Itm} (h : itemE x = 0) : 1 ≤ x.kind ∧ x.kind ≤ 4 := by
  unfold itemE at h
  split at h
  · omega
  split at h
  · omega
  rename_i h2
  simp at h2
  exact inB_true h2

theorem items_kindsK {l : List Itm} (h : itsE itemE l = 0) : ∀ x ∈ l, 1 ≤ x.kind ∧ x.kind ≤ 4 := by
  unfold itsE at h
  split at h
  · omega
  split at h
  · rename_i h2; exact absurd h h2
  rename_i h2
  have h2 : ordE itemE [] l = 0 := by simpa using h2
  exact fun x hx => itemE_kindK (ordE_gt h2 x hx).1
theorem FlV.forms {w : World} {f : Flt} {vk vc vs : Value} (h : FlV w f (.agg #[vk, vc, .int .i64 f.fr, .int .i64 f.tl, vs])) : (∃ A n c, vk = .slice A n c) ∧ (∃ A n c, vc = .slice A n c) ∧ ∃ A n c, vs = .slice A n c := by
  obtain ⟨_, _, _, he, h1, h2, h3⟩ := h
  cases he
  exact ⟨h1.form, h2.form, h3.form⟩
theorem FlV.far {w w' : World} {f : Flt} {v : Value} {g : Nat} {cs : Array Value} (h : FlV w f v) (hB : Blk w g 33 cs) (hm : Mod (· = g) w w') : FlV w' f v := by
  obtain ⟨vk, vc, vs, rfl, h1, h2, h3⟩ := h
  have hr : ∀ (T : TypeId), T ≠ 33 → ∀ g' arr fr, w.heap[g']? = some (.cells arr T fr) → ¬ (g' = g) := by
    rintro T ht g' arr fr hg rfl
    unfold Blk at hB
    rw [hg] at hB
    injection hB with hB
    injection hB with _ h2
    exact ht h2
  exact ⟨vk, vc, vs, rfl, h1.mod hm (hr _ (by decide)), h2.mod hm (hr _ (by decide)), h3.mod hm (hr _ (by decide))⟩
theorem Mod.set5 (w : World) (g : Nat) (x0 x1 x2 x3 x4 : Value) : Mod (· = g) w (((((w.setCell ⟨g, 0, none⟩ x0).setCell ⟨g, 1, none⟩ x1).setCell ⟨g, 2, none⟩ x2).setCell ⟨g, 3, none⟩ x3).setCell ⟨g, 4, none⟩ x4) :=
  Mod.setCell (S := fun j => j = g) (p := ⟨g, 4, none⟩) (Mod.setCell (S := fun j => j = g) (p := ⟨g, 3, none⟩) (Mod.setCell (S := fun j => j = g) (p := ⟨g, 2, none⟩) (Mod.setCell (S := fun j => j = g) (p := ⟨g, 1, none⟩) (Mod.setCell (S := fun j => j = g) (p := ⟨g, 0, none⟩) (Mod.refl _ _) (.inl rfl) _) (.inl rfl) _) (.inl rfl) _) (.inl rfl) _) (.inl rfl) _
def FkCut (w2 : World) (b g : Nat) (wx : World) : Prop :=
  ∃ (f : Flt) (vk vc vs : Value), Blk wx g 33 #[vk, vc, .int .i64 f.fr, .int .i64 f.tl, vs] ∧ FlV wx f (.agg #[vk, vc, .int .i64 f.fr, .int .i64 f.tl, vs]) ∧ FlB f ∧ Mod (· = b) w2 wx

set_option maxRecDepth 100000 in
set_option maxHeartbeats 16000000 in
theorem FilterKeeps_calls (w : World) (A : Option Addr) (n c : Nat) (hA : ArgInts w A n) (hE : ErrS w) (hD : Deb w) (hV : Env w) :
    Calls Tryz.prog 3 #[.slice A n c] w (BoolPost w true) := by
  have hS0 := strm_new (c := c) hA
  have HE : Hid (∀ w1, Pure w w1 → ErrS w1) := Lib.hid (fun _ h => hE.pure h)
  have HD : Hid (∀ w1, Pure w w1 → Deb w1) := Lib.hid (fun _ h => hD.pure h)
  have HV : Hid (∀ w1, Pure w w1 → Env w1) := Lib.hid (fun _ h => hV.pure h)
  obtain ⟨b, hb⟩ : ∃ b, b = w.heap.size := ⟨_, rfl⟩
  have P0 := pure_alloc w (.cells #[.slice A n c, .int .i64 0] 25)
  have HPS : Hid (∀ {w1 w' : World}, Pure w w1 → Mod (· = b) w1 w' → Pure w w') := Lib.hid (fun k h => k.trans' h (fun i hi hlt => by omega))
  rw [← hb] at hS0
  clear hE hD hV hA
  go_enter Tryz.func3, Tryz.ntmps3
  go_wp2_with fail
  rw [← hb]
  generalize (w.alloc (.cells #[.slice A n c, .int .i64 0] 25)) = w0 at *
  clear hb
  refine (rangeI_calls _ _ _ _ hS0 (by omega) (by omega) (by omega)).mono ?_
  rintro e w1 ⟨m, mI, hmI, hm8, rfl, hS1, hM1⟩
  have P1 := HPS.out P0 hM1
  have hm20 : m ≤ 10 := by omega
  have HIT := Lib.hid (items_calls w1 b _ m mI hmI hS1 (by omega) (by omega) (fun W h => HV.out W (HPS.out P1 h)))
  clear hS0 P0 hM1 hmI hm8 hS1
  go_wp2_with fail
  refine HIT.out.mono ?_
  rintro e w2 ⟨v, xs, rfl, hxl, hxz, hown, hS2, hM2⟩
  have P2 := Lib.hid (HPS.out P1 hM2)
  have hv : Its w2 v xs := Sl.of_own hown
  have hx11 : xs.length ≤ 11 := by omega
  have HXZ := Lib.hid hxz
  have HIV : Hid (∀ W, Mod (· = b) w2 W → Its W v xs) := Lib.hid (fun W h => hv.strm hS2 h (by decide))
  have HFN := Lib.hid (filter_calls w2 b _ (.slice none 0 0) [] hS2 (by omega) ⟨none, 0, 0, rfl, by omega, by omega, rfl, fun h => absurd h (by omega)⟩ (by simp) (by simp) (by simp))
  have hbw2 := hS2.lt
  obtain ⟨Av, nv, cv, rfl⟩ := hv.form
  clear HIT hxz hown P1 hM2 hxl hS2 hv
  go_wp2_with fail
  refine HFN.out.mono ?_
  rintro e w3 ⟨f, vk, vc, vs, rfl, hfv, hfb, hS3, hM3⟩
  have hw23 := hM3.size
  obtain ⟨⟨Ak, nk, ck, rfl⟩, ⟨Ac, nc, cc, rfl⟩, ⟨As, ns, cs, rfl⟩⟩ := hfv.forms
  have HB3 := Lib.hid (Blk.new w3 33 #[.slice Ak nk ck, .slice Ac nc cc, .int .i64 f.fr, .int .i64 f.tl, .slice As ns cs])
  have hp4 := pure_alloc w3 (.cells #[.slice Ak nk ck, .slice Ac nc cc, .int .i64 f.fr, .int .i64 f.tl, .slice As ns cs] 33)
  have HM4 := Lib.hid (hM3.transp hp4)
  have HFV4 := Lib.hid (hfv.pure hp4)
  have HFB := Lib.hid hfb
  have HS4 := Lib.hid (hS3.pure hp4)
  clear HFN hfv hfb hS3 hM3 hp4
  go_upto_region 4 with (fail)
  generalize (w3.alloc (.cells #[.slice Ak nk ck, .slice Ac nc cc, .int .i64 f.fr, .int .i64 f.tl, .slice As ns cs] 33)) = w4 at *
  obtain ⟨g, hg⟩ : ∃ g, g = w3.heap.size := ⟨_, rfl⟩
  have hgb : b < g := by omega
  have hg2 : w2.heap.size ≤ g := by omega
  rw [← hg] at HB3 ⊢
  clear hg
  have HIA := Lib.hid (fun W (h : Mod (· = b) w2 W) => itemsFault_calls W _ xs (HIV.out W h) HXZ.out (by omega) (HV.out W (HPS.out P2.out h)))
  obtain ⟨fa, hfa⟩ : ∃ fa, itsE itemE xs = fa := ⟨_, rfl⟩
  have HFA := Lib.hid hfa
  rw [hfa] at HIA
  clear hfa
  have HC4 := Lib.hid (HIA.out w4 HM4.out)
  go_wp2_with fail
  refine HC4.out.mono ?_
  rintro e w5 ⟨rfl, m5⟩
  have HM5 := Lib.hid (HM4.out.transp m5)
  have HFV5 := Lib.hid (HFV4.out.pure m5)
  have HS5 := Lib.hid (HS4.out.pure m5)
  have HB5 := Lib.hid (HB3.out.modp m5)
  clear HC4 HM4 HFV4 HS4 HB3 m5
  go_upto_if 23 with (fail)
  go_cut [] (fun wx => FkCut w2 b g wx)
  case first =>
    by_cases h0 : fa = 0
    · have h0' : (fa == 0) = true := by simpa using h0
      have HFN := Lib.hid (filter_calls w5 b _ _ xs HS5.out (by omega) (HIV.out _ HM5.out) HXZ.out (items_kindsK (HFA.out.trans h0)) (by omega))
      have hB5 := HB5.out
      clear h0 HIA
      go_wp2_with fail
      refine HFN.out.mono ?_
      rintro e w6 ⟨f2, vk2, vc2, vs2, rfl, hfv2, hfb2, hS6, hM6⟩
      obtain ⟨⟨Bk, mk, dk, rfl⟩, ⟨Bc, mc, dc, rfl⟩, ⟨Bs, ms, ds, rfl⟩⟩ := hfv2.forms
      have hB6 := hB5.mod hM6 (by omega)
      have HFV6 := Lib.hid hfv2
      have HM6 := Lib.hid (HM5.out.trans hM6)
      have HB6 := Lib.hid hB6
      have HFB2 := Lib.hid hfb2
      have z0 := hB6.cell 0; have zf0 := hB6.frozen 0; have z1 := hB6.cell 1; have zf1 := hB6.frozen 1; have z2 := hB6.cell 2; have zf2 := hB6.frozen 2; have z3 := hB6.cell 3; have zf3 := hB6.frozen 3; have z4 := hB6.cell 4; have zf4 := hB6.frozen 4; simp at z0 z1 z2 z3 z4
      clear HFN hB5 hB6 hfv2 hM6 hfb2 hS6
      go_wp2_with fail
      go_meet
      have hm5 := Mod.set5 w6 g (.slice Bk mk dk) (.slice Bc mc dc) (.int .i64 f2.fr) (.int .i64 f2.tl) (.slice Bs ms ds)
      have hb5 := ((((HB6.out.set 0 (.slice Bk mk dk)).set 1 (.slice Bc mc dc)).set 2 (.int .i64 f2.fr)).set 3 (.int .i64 f2.tl)).set 4 (.slice Bs ms ds)
      exact ⟨f2, _, _, _, by simpa using hb5, HFV6.out.far HB6.out hm5, HFB2.out, ((((HM6.out.setR hg2 0 _).setR hg2 1 _).setR hg2 2 _).setR hg2 3 _).setR hg2 4 _⟩
    · have h0' : (fa == 0) = false := by simpa using h0
      go_wp2_with fail
      go_meet
      exact ⟨f, _, _, _, HB5.out, HFV5.out, HFB.out, HM5.out⟩
  case rest =>
    clear HB5 HFV5 HFB HM5 HS5
    obtain ⟨f, vk, vc, vs, hB, hfv, hfb, hM⟩ := hcut
    have P6 := Lib.hid (HPS.out P2.out hM)
    have HKP := Lib.hid (keep_calls wc _ _ f xs (HIV.out _ hM) HXZ.out (by omega) hfv hfb (HV.out _ P6.out) (HD.out _ P6.out))
    have HCF := Lib.hid (fun W (h : Pure wc W) => checkFilter_calls W _ f (hfv.pure h) hfb)
    have HFF := Lib.hid (fun W (h : Pure wc W) => filterFault_calls W _ f (hfv.pure h) hfb)
    have HIF := Lib.hid (fun W (h : Pure wc W) => HIA.out W (hM.transp h))
    have HKO : Hid (fa = 0 → ∀ W, Pure wc W → Calls Tryz.prog 15 #[.slice Av nv cv, .agg #[vk, vc, .int .i64 f.fr, .int .i64 f.tl, vs]] W (KoPost W f xs)) := Lib.hid (fun h0 W h => keepOf_calls W _ _ f xs ((HIV.out _ hM).pure h) HXZ.out (items_kindsK (HFA.out.trans h0)) (right_items (HFA.out.trans h0)) (by omega) (hfv.pure h))
    have HBG : Hid (∀ W, Pure wc W → _) := Lib.hid (fun W (h : Pure wc W) => hB.modp h)
    have HT : Hid (∀ W, Pure w W → _) := Lib.hid (fun W hW => taken_calls W (HE.out _ hW) (HD.out _ hW))
    have HKE : Hid (kepE f xs = if fa ≠ 0 then fa else filE f) := Lib.hid (by unfold kepE; rw [HFA.out])
    have hgw := hB.lt
    obtain ⟨⟨Bk, mk, dk, rfl⟩, ⟨Bc, mc, dc, rfl⟩, ⟨Bs, ms, ds, rfl⟩⟩ := hfv.forms
    unfold KepPost at HKP
    generalize kepE f xs = ke at *
    generalize filE f = fb at *
    have z0 := hB.cell 0; have z1 := hB.cell 1; have z2 := hB.cell 2; have z3 := hB.cell 3; have z4 := hB.cell 4; simp at z0 z1 z2 z3 z4
    clear hB hfv hfb hM HIA HIV HXZ HFA HE HD HV HPS P2
    go_wp2_with fail
    refine HKP.out.mono ?_
    rintro e w7 ⟨A6, n6, c6, A7, n7, c7, rfl, hn, hz0, m7⟩
    have HN := Lib.hid hn
    have HZ0 := Lib.hid hz0
    have M7 := Lib.hid m7
    have hgw7 : g < w7.heap.size := by have := m7.size; omega
    have HBG7 : Hid (∀ W, Pure w7 W → _) := Lib.hid (fun W (h : Pure w7 W) => HBG.out W (M7.out.trans h))
    clear HKP hn hz0 m7 z0 z1 z2 z3 z4
    go_upto_region 7 with (fail)
    have HGs := Lib.hid (show ∀ (D : Nat → Bool) (zzi : Nat) (zq zq' : World), (fun _ zq => (fun Z => g < Z.heap.size) zq) D zq → Mod (fun _ => False) zq zq' → (fun _ zq => (fun Z => g < Z.heap.size) zq) (upd D zzi true) zq' from by intro D zzi zq zq' h hm; (exact Nat.lt_of_lt_of_le h hm.size))
    refine wp_region_inv (by kernel_rfl) (by kernel_rfl) (InvF (R := Mod (fun _ => False)) [.is (.agg #[.slice Bk mk dk, .slice Bc mc dc, .int .i64 f.fr, .int .i64 f.tl, .slice Bs ms ds]),
        .is (.int .i64 fb),
        .is (.agg #[.slice Bk mk dk, .slice Bc mc dc, .int .i64 f.fr, .int .i64 f.tl, .slice Bs ms ds]),
        .is (.int .i64 fb),
        .is (.bool false)]
        (PB w7 (fun _ => False) w7.heap.size (fun _ zq => (fun Z => g < Z.heap.size) zq))) (InvF.start (PB.start (Mod.refl _ _) (Nat.le_refl _) (hgw7))) ?_ ?_
    · refine .cons ?_ (.cons ?_ (.cons ?_ (.cons ?_ (.cons ?_ .nil))))
      · intro D V zw1 a hR hI K hK
        obtain ⟨hM1, hB1, hG1⟩ := hI.1
        have ze5 := hR.frame.other (t := 5) (by kernel_rfl) rfl
        have zx0 := (HBG7.out zw1 hM1).cell 0; have zy0 := (HBG7.out zw1 hM1).frozen 0; simp at zx0
        have zx1 := (HBG7.out zw1 hM1).cell 1; have zy1 := (HBG7.out zw1 hM1).frozen 1; simp at zx1
        have zx2 := (HBG7.out zw1 hM1).cell 2; have zy2 := (HBG7.out zw1 hM1).frozen 2; simp at zx2
        have zx3 := (HBG7.out zw1 hM1).cell 3; have zy3 := (HBG7.out zw1 hM1).frozen 3; simp at zx3
        have zx4 := (HBG7.out zw1 hM1).cell 4; have zy4 := (HBG7.out zw1 hM1).frozen 4; simp at zx4
        rw [if_pos (by rfl)]
        go_simp
        exact hK (.agg #[.slice Bk mk dk, .slice Bc mc dc, .int .i64 f.fr, .int .i64 f.tl, .slice Bs ms ds]) _ (hI.next hR (by kernel_rfl) (Mod.refl _ _) (PB.quiet hI.1 (Mod.refl _ _) (HGs.out D 0 zw1 zw1 (hI.1).g (Mod.refl _ _))) (upd_same V 0 _))
      · intro D V zw1 a hR hI K hK
        obtain ⟨hM1, hB1, hG1⟩ := hI.1
        have zd0 := hR.pred 0 (by kernel_rfl)
        have zF0 : V 0 = .agg #[.slice Bk mk dk, .slice Bc mc dc, .int .i64 f.fr, .int .i64 f.tl, .slice Bs ms ds] := hI.2 0 zd0 rfl
        have zf0 := zF0; clear zF0
        have ze34 := hR.frame.done (t := 34) (j := 0) (by kernel_rfl) hR.ok zd0
        rw [if_pos (by rfl)]
        go_simp
        refine (HCF.out zw1 (M7.out.trans hM1)).mono ?_
        rintro e zw2 ⟨rfl, hm2⟩
        exact hK (.int .i64 fb) _ (hI.next hR (by kernel_rfl) hm2 (PB.quiet hI.1 hm2 (HGs.out D 1 _ _ (hI.1).g hm2)) (upd_same V 1 _))
      · intro D V zw1 a hR hI K hK
        obtain ⟨hM1, hB1, hG1⟩ := hI.1
        have ze5 := hR.frame.other (t := 5) (by kernel_rfl) rfl
        have zx0 := (HBG7.out zw1 hM1).cell 0; have zy0 := (HBG7.out zw1 hM1).frozen 0; simp at zx0
        have zx1 := (HBG7.out zw1 hM1).cell 1; have zy1 := (HBG7.out zw1 hM1).frozen 1; simp at zx1
        have zx2 := (HBG7.out zw1 hM1).cell 2; have zy2 := (HBG7.out zw1 hM1).frozen 2; simp at zx2
        have zx3 := (HBG7.out zw1 hM1).cell 3; have zy3 := (HBG7.out zw1 hM1).frozen 3; simp at zx3
        have zx4 := (HBG7.out zw1 hM1).cell 4; have zy4 := (HBG7.out zw1 hM1).frozen 4; simp at zx4
        rw [if_pos (by rfl)]
        go_simp
        exact hK (.agg #[.slice Bk mk dk, .slice Bc mc dc, .int .i64 f.fr, .int .i64 f.tl, .slice Bs ms ds]) _ (hI.next hR (by kernel_rfl) (Mod.refl _ _) (PB.quiet hI.1 (Mod.refl _ _) (HGs.out D 2 zw1 zw1 (hI.1).g (Mod.refl _ _))) (upd_same V 2 _))
      · intro D V zw1 a hR hI K hK
        obtain ⟨hM1, hB1, hG1⟩ := hI.1
        have zd2 := hR.pred 2 (by kernel_rfl)
        have zF2 : V 2 = .agg #[.slice Bk mk dk, .slice Bc mc dc, .int .i64 f.fr, .int .i64 f.tl, .slice Bs ms ds] := hI.2 2 zd2 rfl
        have zf2 := zF2; clear zF2
        have ze36 := hR.frame.done (t := 36) (j := 2) (by kernel_rfl) hR.ok zd2
        rw [if_pos (by rfl)]
        go_simp
        refine (HFF.out zw1 (M7.out.trans hM1)).mono ?_
        rintro e zw2 ⟨rfl, hm2⟩
        exact hK (.int .i64 fb) _ (hI.next hR (by kernel_rfl) hm2 (PB.quiet hI.1 hm2 (HGs.out D 3 _ _ (hI.1).g hm2)) (upd_same V 3 _))
      · intro D V zw1 a hR hI K hK
        obtain ⟨hM1, hB1, hG1⟩ := hI.1
        have zd1 := hR.pred 1 (by kernel_rfl)
        have zF1 : V 1 = .int .i64 fb := hI.2 1 zd1 rfl
        have zf1 := zF1; clear zF1
        have zd3 := hR.pred 3 (by kernel_rfl)
        have zF3 : V 3 = .int .i64 fb := hI.2 3 zd3 rfl
        have zf3 := zF3; clear zF3
        have ze35 := hR.frame.done (t := 35) (j := 1) (by kernel_rfl) hR.ok zd1
        have ze37 := hR.frame.done (t := 37) (j := 3) (by kernel_rfl) hR.ok zd3
        rw [if_pos (by rfl)]
        go_simp
        exact hK (.bool false) _ (hI.next hR (by kernel_rfl) (Mod.refl _ _) (PB.quiet hI.1 (Mod.refl _ _) (HGs.out D 4 zw1 zw1 (hI.1).g (Mod.refl _ _))) (upd_same V 4 _))
    · intro D V w8 hD hI
      obtain ⟨hM1, hB1, hG1⟩ := hI.1
      have hMx := hM1
      clear hM1
      have hBx := hB1
      clear hB1
      have hGx := hG1
      clear hG1
      have zF0 : V 0 = .agg #[.slice Bk mk dk, .slice Bc mc dc, .int .i64 f.fr, .int .i64 f.tl, .slice Bs ms ds] := hI.2 0 (hD 0 (by decide)) rfl
      have zf0 := zF0; clear zF0
      have zF1 : V 1 = .int .i64 fb := hI.2 1 (hD 1 (by decide)) rfl
      have zf1 := zF1; clear zF1
      have zF2 : V 2 = .agg #[.slice Bk mk dk, .slice Bc mc dc, .int .i64 f.fr, .int .i64 f.tl, .slice Bs ms ds] := hI.2 2 (hD 2 (by decide)) rfl
      have zf2 := zF2; clear zF2
      have zF3 : V 3 = .int .i64 fb := hI.2 3 (hD 3 (by decide)) rfl
      have zf3 := zF3; clear zF3
      have zF4 : V 4 = .bool false := hI.2 4 (hD 4 (by decide)) rfl
      have zf4 := zF4; clear zF4
      clear hI hD HGs
      simp only [frAll, Act.put, List.setIfInBounds_toArray, List.set_cons_zero, List.set_cons_succ, Nat.zero_add, Nat.reduceAdd, zf0, zf1, zf2, zf3, zf4]
      clear zf0 zf1 zf2 zf3 zf4
      clear V D
      have M8 := Lib.hid (M7.out.trans hMx)
      have hgw8 := hGx
      have M78 := Lib.hid hMx
      have HBG8 : Hid (∀ W, Pure w8 W → _) := Lib.hid (fun W (h : Pure w8 W) => HBG.out W (M8.out.trans h))
      clear hMx HBG7 HCF
      go_upto_region 9 with (fail)
      have HGs := Lib.hid (show ∀ (D : Nat → Bool) (zzi : Nat) (zq zq' : World), (fun _ zq => (fun Z => g < Z.heap.size) zq) D zq → Mod (fun _ => False) zq zq' → (fun _ zq => (fun Z => g < Z.heap.size) zq) (upd D zzi true) zq' from by intro D zzi zq zq' h hm; (exact Nat.lt_of_lt_of_le h hm.size))
      refine wp_region_inv (by kernel_rfl) (by kernel_rfl) (InvF (R := Mod (fun _ => False)) [.is (.slice Av nv cv),
          .is (.int .i64 fa),
          .is (.agg #[.slice Bk mk dk, .slice Bc mc dc, .int .i64 f.fr, .int .i64 f.tl, .slice Bs ms ds]),
          .is (.int .i64 fb),
          ⟨fun zv zw => ∃ (g_4 : Nat), zv = .slice (some ⟨g_4, 0, none⟩) 2 2 ∧ w8.heap.size ≤ g_4 ∧ Blk zw g_4 35 #[.int .i64 fa, .int .i64 fb], (by rintro zv zw zx ⟨g_4, rfl, c0, q0⟩ hm; exact ⟨g_4, rfl, c0, (q0.modp hm)⟩), none, some 5⟩,
          .is (.int .i64 (firstErr [fa, fb])),
          .is (.int .i64 (firstErr [fa, fb]))]
          (PB w8 (fun _ => False) w8.heap.size (fun _ zq => (fun Z => g < Z.heap.size) zq))) (InvF.start (PB.start (Mod.refl _ _) (Nat.le_refl _) (hgw8))) ?_ ?_
      · refine .cons ?_ (.cons ?_ (.cons ?_ (.cons ?_ (.cons ?_ (.cons ?_ (.cons ?_ .nil))))))
        · intro D V zw1 a hR hI K hK
          obtain ⟨hM1, hB1, hG1⟩ := hI.1
          have ze4 := hR.frame.other (t := 4) (by kernel_rfl) rfl
          rw [if_pos (by rfl)]
          go_simp
          exact hK (.slice Av nv cv) _ (hI.next hR (by kernel_rfl) (Mod.refl _ _) (PB.quiet hI.1 (Mod.refl _ _) (HGs.out D 0 zw1 zw1 (hI.1).g (Mod.refl _ _))) (upd_same V 0 _))
        · intro D V zw1 a hR hI K hK
          obtain ⟨hM1, hB1, hG1⟩ := hI.1
          have zd0 := hR.pred 0 (by kernel_rfl)
          have zF0 : V 0 = .slice Av nv cv := hI.2 0 zd0 rfl
          have zf0 := zF0; clear zF0
          have ze39 := hR.frame.done (t := 39) (j := 0) (by kernel_rfl) hR.ok zd0
          rw [if_pos (by rfl)]
          go_simp
          refine (HIF.out zw1 (M8.out.trans hM1)).mono ?_
          rintro e zw2 ⟨rfl, hm2⟩
          exact hK (.int .i64 fa) _ (hI.next hR (by kernel_rfl) hm2 (PB.quiet hI.1 hm2 (HGs.out D 1 _ _ (hI.1).g hm2)) (upd_same V 1 _))
        · intro D V zw1 a hR hI K hK
          obtain ⟨hM1, hB1, hG1⟩ := hI.1
          have ze5 := hR.frame.other (t := 5) (by kernel_rfl) rfl
          have zx0 := (HBG8.out zw1 hM1).cell 0; have zy0 := (HBG8.out zw1 hM1).frozen 0; simp at zx0
          have zx1 := (HBG8.out zw1 hM1).cell 1; have zy1 := (HBG8.out zw1 hM1).frozen 1; simp at zx1
          have zx2 := (HBG8.out zw1 hM1).cell 2; have zy2 := (HBG8.out zw1 hM1).frozen 2; simp at zx2
          have zx3 := (HBG8.out zw1 hM1).cell 3; have zy3 := (HBG8.out zw1 hM1).frozen 3; simp at zx3
          have zx4 := (HBG8.out zw1 hM1).cell 4; have zy4 := (HBG8.out zw1 hM1).frozen 4; simp at zx4
          rw [if_pos (by rfl)]
          go_simp
          exact hK (.agg #[.slice Bk mk dk, .slice Bc mc dc, .int .i64 f.fr, .int .i64 f.tl, .slice Bs ms ds]) _ (hI.next hR (by kernel_rfl) (Mod.refl _ _) (PB.quiet hI.1 (Mod.refl _ _) (HGs.out D 2 zw1 zw1 (hI.1).g (Mod.refl _ _))) (upd_same V 2 _))
        · intro D V zw1 a hR hI K hK
          obtain ⟨hM1, hB1, hG1⟩ := hI.1
          have zd2 := hR.pred 2 (by kernel_rfl)
          have zF2 : V 2 = .agg #[.slice Bk mk dk, .slice Bc mc dc, .int .i64 f.fr, .int .i64 f.tl, .slice Bs ms ds] := hI.2 2 zd2 rfl
          have zf2 := zF2; clear zF2
          have ze41 := hR.frame.done (t := 41) (j := 2) (by kernel_rfl) hR.ok zd2
          rw [if_pos (by rfl)]
          go_simp
          refine (HFF.out zw1 (M8.out.trans hM1)).mono ?_
          rintro e zw2 ⟨rfl, hm2⟩
          exact hK (.int .i64 fb) _ (hI.next hR (by kernel_rfl) hm2 (PB.quiet hI.1 hm2 (HGs.out D 3 _ _ (hI.1).g hm2)) (upd_same V 3 _))
        · intro D V zw1 a hR hI K hK
          obtain ⟨hM1, hB1, hG1⟩ := hI.1
          have zd1 := hR.pred 1 (by kernel_rfl)
          have zF1 : V 1 = .int .i64 fa := hI.2 1 zd1 rfl
          have zf1 := zF1; clear zF1
          have zd3 := hR.pred 3 (by kernel_rfl)
          have zF3 : V 3 = .int .i64 fb := hI.2 3 zd3 rfl
          have zf3 := zF3; clear zF3
          have ze40 := hR.frame.done (t := 40) (j := 1) (by kernel_rfl) hR.ok zd1
          have ze42 := hR.frame.done (t := 42) (j := 3) (by kernel_rfl) hR.ok zd3
          rw [if_pos (by rfl)]
          go_simp
          exact hK (_) _ (hI.next hR (by kernel_rfl) ((Mod.refl _ _).alloc _) (PB.quiet hI.1 (pure_alloc _ _) (HGs.out D 4 _ _ (hI.1).g ((Mod.refl _ _).alloc _))) (⟨_, upd_same V 4 _, (by omega), (Blk.new _ _ _)⟩))
        · intro D V zw1 a hR hI K hK
          obtain ⟨hM1, hB1, hG1⟩ := hI.1
          have zd4 := hR.pred 4 (by kernel_rfl)
          have zF4 : ∃ (g_4 : Nat), V 4 = .slice (some ⟨g_4, 0, none⟩) 2 2 ∧ w8.heap.size ≤ g_4 ∧ Blk zw1 g_4 35 #[.int .i64 fa, .int .i64 fb] := hI.2 4 zd4 (by show (!D 5) = true; rw [hR.not]; rfl)
          obtain ⟨g_4, zf4, c4_0, b4_0⟩ := zF4
          have ze43 := hR.frame.done (t := 43) (j := 4) (by kernel_rfl) hR.ok zd4
          rw [if_pos (by rfl)]
          go_simp
          refine (wrongOr_calls _ _ _ [fa, fb] b4_0.row0 (by simp)).mono ?_
          rintro e zw2 ⟨rfl, hm2⟩
          exact hK (.int .i64 (firstErr [fa, fb])) _ (hI.next hR (by kernel_rfl) hm2 (PB.quiet hI.1 hm2 (HGs.out D 5 _ _ (hI.1).g hm2)) (upd_same V 5 _))
        · intro D V zw1 a hR hI K hK
          obtain ⟨hM1, hB1, hG1⟩ := hI.1
          have zd5 := hR.pred 5 (by kernel_rfl)
          have zF5 : V 5 = .int .i64 (firstErr [fa, fb]) := hI.2 5 zd5 rfl
          have zf5 := zF5; clear zF5
          have ze44 := hR.frame.done (t := 44) (j := 5) (by kernel_rfl) hR.ok zd5
          rw [if_pos (by rfl)]
          go_simp
          exact hK (.int .i64 (firstErr [fa, fb])) _ (hI.next hR (by kernel_rfl) (Mod.refl _ _) (PB.quiet hI.1 (Mod.refl _ _) (HGs.out D 6 zw1 zw1 (hI.1).g (Mod.refl _ _))) (upd_same V 6 _))
      · intro D V w9 hD hI
        obtain ⟨hM1, hB1, hG1⟩ := hI.1
        have hMx := hM1
        clear hM1
        have hBx := hB1
        clear hB1
        have hGx := hG1
        clear hG1
        have zF0 : V 0 = .slice Av nv cv := hI.2 0 (hD 0 (by decide)) rfl
        have zf0 := zF0; clear zF0
        have zF1 : V 1 = .int .i64 fa := hI.2 1 (hD 1 (by decide)) rfl
        have zf1 := zF1; clear zF1
        have zF2 : V 2 = .agg #[.slice Bk mk dk, .slice Bc mc dc, .int .i64 f.fr, .int .i64 f.tl, .slice Bs ms ds] := hI.2 2 (hD 2 (by decide)) rfl
        have zf2 := zF2; clear zF2
        have zF3 : V 3 = .int .i64 fb := hI.2 3 (hD 3 (by decide)) rfl
        have zf3 := zF3; clear zF3
        have zF5 : V 5 = .int .i64 (firstErr [fa, fb]) := hI.2 5 (hD 5 (by decide)) rfl
        have zf5 := zF5; clear zF5
        have zF6 : V 6 = .int .i64 (firstErr [fa, fb]) := hI.2 6 (hD 6 (by decide)) rfl
        have zf6 := zF6; clear zF6
        clear hI hD HGs
        simp only [frAll, Act.put, List.setIfInBounds_toArray, List.set_cons_zero, List.set_cons_succ, Nat.zero_add, Nat.reduceAdd, zf0, zf1, zf2, zf3, zf5, zf6]
        clear zf0 zf1 zf2 zf3 zf5 zf6
        generalize V 4 = u4
        clear V D
        rw [firstErrK, ← HKE.out]
        have M9 := Lib.hid (M8.out.trans hMx)
        have M79 := Lib.hid (M78.out.trans hMx)
        have hB9 := HBG.out _ M9.out
        clear hMx HBG8 HFF HIF hGx
        by_cases h0 : ke = 0
        · subst h0
          have h0a : fa = 0 := Classical.byContradiction fun h => by have := HKE.out; rw [if_pos h] at this; exact h this.symm
          obtain ⟨hs1, hs2⟩ := HZ0.out rfl
          have HS1 := Lib.hid (hs1.pure M79.out)
          have HS2 := Lib.hid (hs2.pure M79.out)
          have HO := Lib.hid (HKO.out h0a _ M9.out)
          have P9 := Lib.hid (P6.out.trans M9.out)
          clear HN HZ0 HKO HKE h0a hs1 hs2 M79 M78 M8 M7
          have z0 := hB9.cell 0; have z1 := hB9.cell 1; have z2 := hB9.cell 2; have z3 := hB9.cell 3; have z4 := hB9.cell 4; simp at z0 z1 z2 z3 z4
          clear hB9
          go_wp2_with fail
          refine HO.out.mono ?_
          rintro e w10 ⟨D1, k1, e1, D2, k2, e2, rfl, hg1, hg2', m10⟩
          have HE1 := Lib.hid (equalS_calls w10 _ _ _ (HS1.out.pure m10) hg1)
          have HE2 := Lib.hid (fun W (h : Pure w10 W) => equalLft_calls W _ _ _ ((HS2.out.pure m10).pure h) (hg2'.pure h))
          have P10 := Lib.hid (P9.out.trans m10)
          clear HO HS1 HS2 hg1 hg2' m10 z0 z1 z2 z3 z4
          go_wp2_with fail
          refine HE1.out.mono ?_
          rintro e w11 ⟨rfl, m11⟩
          have HE3 := Lib.hid (HE2.out _ m11)
          clear HE1 HE2
          go_wp2_with fail
          refine HE3.out.mono ?_
          rintro e w12 ⟨rfl, m12⟩
          have P12 := P10.out.trans (m11.trans m12)
          clear HE3
          go_wp2_with fail
          refine (HT.out _ P12).mono ?_
          rintro e w13 ⟨rfl, m13⟩
          go_wp2_with fail
          go_ret
          exact ⟨rfl, P12.trans m13⟩
        · have h0' : (ke != 0) = true := by simpa using h0
          obtain ⟨⟨rfl, rfl, rfl⟩, rfl, rfl, rfl⟩ := HN.out h0
          have hff : (ke == ke) = true := by simp
          have P9 := P6.out.trans M9.out
          clear HN HZ0 HKO HKE h0 hB9
          go_wp2_with fail
          refine (HT.out _ P9).mono ?_
          rintro e w13 ⟨rfl, m13⟩
          go_wp2_with fail
          go_ret
          exact ⟨rfl, P9.trans m13⟩

end Go.Proofs.YtofkkenmkflmiaaGreatDoor

/- What the listed variables of the item laws hold. -/
namespace Go.Proofs.YtofkkenmkflmiaaGreatDoor
set_option linter.unusedVariables false
set_option linter.unusedSimpArgs false
open Go.RowKit

def litZ : DataW Unit → Int
  | .lit (.int _ n) => n
  | _ => 0
def litsZ : DataW Unit → List Int
  | .agg ps => ps.map litZ
  | _ => []
theorem cell_of_var {W : World} {g : Nat} {name : String} {cs : Array Value} (hg : Tryz.prog.globalNamed name = some g) (h : W.var? Tryz.prog name = some cs) (i : Nat) : W.cell? ⟨g, i, none⟩ = cs[i]? := by
  unfold World.var? at h
  rw [hg] at h
  simp only [Option.bind_some] at h
  split at h
  · rename_i hh
    injection h with h
    subst h
    exact cell_of_row W g i _ _ _ hh
  · cases h
theorem star : "*" ++ "errors.errorString" = "*errors.errorString" := by decide
theorem rowErr (u : TypeId) (h : Tryz.prog.typeName? 3 u = some "*errors.errorString") : u = 287 :=
  typeName_ptr_named (nm := "errors.errorString") (by rw [star]; kernel_rfl) (by kernel_rfl) (by decide) u (by rw [star]; exact h)
/-- The list that all rows of this seat have. -/
abbrev laidI : List (String × DataW Unit) := [("math/bits.deBruijn32tab", Rows.laid_math_bits_deBruijn32tab), ("math/bits.deBruijn64tab", Rows.laid_math_bits_deBruijn64tab), ("internal/strconv.uint64pow10", Rows.laid_internal_strconv_uint64pow10), ("unicode/utf8.acceptRanges", Rows.laid_unicode_utf8_acceptRanges), ("strconv.ErrRange", Rows.laid_strconv_ErrRange), ("strconv.ErrSyntax", Rows.laid_strconv_ErrSyntax), ("unicode/utf8.first", Rows.laid_unicode_utf8_first)]
theorem deb_of {W : World} (hL : laidMet Tryz.prog laidI W) : Deb W := by
  have h1 := Lib.tabIs_of_head (k := .u8) (zs := litsZ Rows.laid_math_bits_deBruijn64tab) (g := 9) (name := "math/bits.deBruijn64tab") (P := Tryz.prog) (W := W) (n := 64) (t := 291) (e := 5) (by kernel_rfl) (by kernel_rfl) (by kernel_rfl) (by kernel_rfl) (by kernel_rfl) (by kernel_rfl) hL.tail
  exact (cell_of_var (by kernel_rfl) h1 15).trans (by kernel_rfl)
theorem err_of {W : World} (hL : laidMet Tryz.prog laidI W) : ErrS W := by
  obtain ⟨a, s, hv, _⟩ := laid_sentinel (g := 6) hL.tail.tail.tail.tail.tail (by kernel_rfl) (by kernel_rfl) Tryz.underlying127 rowErr Tryz.underlying287 Tryz.underlying289 rfl rfl Tryz.underlying9 (by kernel_rfl) (by kernel_rfl)
  exact ⟨_, _, (cell_of_var (by kernel_rfl) hv 0).trans rfl⟩
theorem dFirst : Rows.laid_unicode_utf8_first = Lib.firstData := by kernel_rfl
theorem dAccept : (Rows.laid_unicode_utf8_acceptRanges : DataW Unit) = Lib.acceptData := by kernel_rfl
theorem utf_of {W : World} (hL : laidMet Tryz.prog laidI W) : Utf W :=
  utf8Tabs_of_readsT (ρ := Tryz.lays196_ren) (U8Types.of196 Tryz.lays196) ⟨by kernel_rfl, by kernel_rfl, by kernel_rfl, by kernel_rfl, by kernel_rfl, by kernel_rfl, by kernel_rfl⟩
    (dFirst ▸ Lib.laidMet.reads hL (by simp [laidI])) (dAccept ▸ Lib.laidMet.reads hL (by simp [laidI]))
theorem mln_of {W : World} (h : W.ShapedOpen Tryz.prog) : Mln W := Tryz.laysM144.s1_3 W h
theorem env_of {W : World} (hL : laidMet Tryz.prog laidI W) (h : W.ShapedOpen Tryz.prog) : Env W := ⟨utf_of hL, mln_of h⟩

end Go.Proofs.YtofkkenmkflmiaaGreatDoor
