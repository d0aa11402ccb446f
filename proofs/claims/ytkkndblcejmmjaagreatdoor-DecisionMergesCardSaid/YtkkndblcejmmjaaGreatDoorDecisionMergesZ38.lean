/- Texts of the proof of DecisionMerges, put together: MrgC, MrgH, MrgI. -/
import Derived.Test.YtkkndblcejmmjaaGreatDoorDecisionMergesZ10
import Derived.Test.YtkkndblcejmmjaaGreatDoorDecisionMergesZ13
import Derived.Test.YtkkndblcejmmjaaGreatDoorDecisionMergesZ14
import Derived.Test.YtkkndblcejmmjaaGreatDoorDecisionMergesZ16
import Derived.Test.YtkkndblcejmmjaaGreatDoorDecisionMergesZ19
import Derived.Test.YtkkndblcejmmjaaGreatDoorDecisionMergesZ20
import Derived.Test.YtkkndblcejmmjaaGreatDoorDecisionMergesZ23
import Derived.Test.YtkkndblcejmmjaaGreatDoorDecisionMergesZ36
import Derived.Test.YtkkndblcejmmjaaGreatDoorDecisionMergesZ37
import Derived.Shelf.Small.Bits
import Derived.Lib.SliceRun
/- slices.SortFunc of decisions. -/
namespace Go.Proofs.YtkkndblcejmmjaaGreatDoor
set_option linter.unusedVariables false
set_option linter.unusedSimpArgs false
open Go.RowKit Go.Sort Go.Shelf
attribute [local go_sem ↓] Go.wp_at_zero Go.wp_at_succ

theorem ModD.grow {w w' : World} (h : ModD w w') : ∃ q os, w' = Go.Sort.grow (w.drewN q) os := by
 obtain ⟨⟨h1, h2, h3, h4, h5⟩, h6⟩ := h
 refine ⟨w'.drawn - w.drawn, w'.heap.extract w.heap.size w'.heap.size, ?_⟩
 have hh : w'.heap = w.heap ++ w'.heap.extract w.heap.size w'.heap.size := by
  apply Array.ext'
  apply List.ext_getElem?
  intro i
  rw [Array.toList_append, List.getElem?_append]
  by_cases hi : i < w.heap.size
  ·rw [if_pos (by simpa using hi)]
   simpa using h5 i hi (fun h => h)
  ·rw [if_neg (by simpa using hi)]
   simp only [Array.toList_extract, List.extract_eq_take_drop, List.getElem?_take, List.getElem?_drop, Array.length_toList]
   rw [show w.heap.size + (i - w.heap.size) = i by omega]
   by_cases hj : i < w'.heap.size
   ·rw [if_pos (by omega)]
   ·rw [if_neg (by omega)]
    simp; omega
 have hd : w.drawn + (w'.drawn - w.drawn) = w'.drawn := by omega
 obtain ⟨⟩ := w
 obtain ⟨⟩ := w'
 simp only at h1 h2 h3 hh hd
 subst h1 h2 h3
 unfold Go.Sort.grow World.drewN
 simp only
 rw [hd, ← hh]

set_option maxRecDepth 100000 in
set_option maxHeartbeats 2000000 in
theorem insert0Dec_calls (w : World) (A : Option Addr) (cap : Nat) (fv : Value) : Calls Tryz.prog 175 #[.slice A 0 cap, .int .i64 0, .int .i64 0, fv] w (NonePost w) := by
 go_enter Tryz.func175, Tryz.ntmps175
 go_wp2_with fail
 refine wp_loop_rounds 1 ?_
 rw [rounds_succ]
 go_wp2_with fail
 go_end0
 exact ⟨rfl, Mod.refl _ _⟩
set_option maxRecDepth 100000 in
set_option maxHeartbeats 2000000 in
theorem pdq0Dec_calls (w : World) (A : Option Addr) (cap : Nat) (fv vl : Value) : Calls Tryz.prog 138 #[.slice A 0 cap, .int .i64 0, .int .i64 0, vl, fv] w (NonePost w) := by
 have H := Lib.hid (insert0Dec_calls w A cap fv)
 go_enter Tryz.func138, Tryz.ntmps138
 go_wp2_with fail
 refine wp_loop_rounds 1 ?_
 rw [rounds_succ]
 go_wp2_with fail
 refine H.out.mono ?_
 rintro e w1 ⟨rfl, hm⟩
 go_wp2_with fail
 go_end0
 exact ⟨rfl, hm⟩
set_option maxRecDepth 100000 in
set_option maxHeartbeats 2000000 in
theorem sort0Dec_calls (w : World) (A : Option Addr) (cap : Nat) (fv : Value) : Calls Tryz.prog 85 #[.slice A 0 cap, fv] w (NonePost w) := by
 have HL : Hid (Calls Tryz.prog 139 #[.int .u64 0] w fun e w' => (∃ x : Int, e = .returned (.int .i64 x)) ∧ w' = w) := Lib.hid ((Any.bits_Len Tryz.bitsLenK 0 w (by omega) (by omega)).mono fun _ _ ⟨h, k⟩ => ⟨⟨_, h⟩, k⟩)
 have H := Lib.hid (fun (vl : Value) (W : World) => pdq0Dec_calls W A cap fv vl)
 go_enter Tryz.func85, Tryz.ntmps85
 go_wp2_with fail
 refine HL.out.mono ?_
 rintro e w1 ⟨⟨v, rfl⟩, rfl⟩
 go_wp2_with fail
 refine (H.out _ _).mono ?_
 rintro e w2 ⟨rfl, hm2⟩
 go_wp2_with fail
 go_end0
 exact ⟨rfl, hm2⟩

theorem swo_of {α : Type} {f : α → α → Int} (h : CmpG f) : SWO (ltOf f) where
 irrefl x := by
  have h1 := h.anti x x
  have : ¬ f x x < 0 := fun e => by unfold sgI at h1; split at h1 <;> omega
  simpa [ltOf] using this
 trans x y z h1 h2 := by
  have h1 : f x y < 0 := by simpa [ltOf] using h1
  have h2 : f y z < 0 := by simpa [ltOf] using h2
  have : f x z < 0 := h.ltL h1 (by omega)
  simpa [ltOf] using this
 ntrans x y z h1 h2 := by
  have h1 : ¬ f x y < 0 := by simpa [ltOf] using h1
  have h2 : ¬ f y z < 0 := by simpa [ltOf] using h2
  have : ¬ f x z < 0 := fun e => by
   have a1 : f y x ≤ 0 := by
    have := h.anti x y
    unfold sgI at this
    split at this <;> split at this <;> omega
   have a2 : f y z < 0 := h.ltR a1 e
   exact h2 a2
  simpa [ltOf] using this
def encM {xs : List DecR} (x : {d // d ∈ xs}) : List Value := decC x.1
theorem decV_attach (xs : List DecR) : decV xs = xs.attach.flatMap encM := by
 have : ∀ ys : List {d // d ∈ xs}, ys.flatMap encM = decV (ys.map (·.1)) := fun ys => by
  induction ys with
  | nil => rfl
  | cons y t ih => show encM y ++ t.flatMap encM = decC y.1 ++ decV (t.map (·.1)); rw [ih]; rfl
 rw [this, List.attach_map_subtype_val]
def SrtDPost (w : World) (base : Nat) (v : Value) (n : Nat) (cf : DecR → DecR → Int) (xs : List DecR) (e : Ending) (w' : World) : Prop :=
 ∃ ys : List DecR, ys.Perm xs ∧ (ys.Pairwise fun x y => ¬ cf y x < 0) ∧ e = .returned (.tuple #[]) ∧ w'.ownsRow base 40 6 v n (decV ys) ∧ Mod (fun k => v.ownBlock = some k) w w'
set_option maxHeartbeats 1000000 in
theorem sortDec_calls (w : World) (base n : Nat) (v cap0 : Value) (cf : DecR → DecR → Int) (xs : List DecR) (F : Nat) (hown : w.ownsRow base 40 6 v n (decV xs)) (h12 : xs.length ≤ 1000000)
  (hO : SWO (ltOf fun x y : {d // d ∈ xs} => cf x.1 y.1)) (eg : ∀ args w, Sem.run Tryz.prog (callFunc F args) w = .ok (.enter F args) w)
  (hF : ∀ (x y : DecR) (W : World), x ∈ xs → y ∈ xs → Mod (fun k => v.ownBlock = some k) w W → Calls Tryz.prog F #[DecVal x, DecVal y, cap0] W (IntD W (cf x y))) :
  Calls Tryz.prog 85 #[v, .func (.func F) #[] #[cap0]] w (SrtDPost w base v n cf xs) := by
 rcases hown.2 with ⟨rfl, h0⟩ | ⟨g, cap, cur, rfl, hbase, hb, h1, h2, h3, h4⟩
 ·have e : xs = [] := by
   have := hown.1
   cases xs with
   | nil => rfl
   | cons x t => rw [h0] at this; simp [decV, decC] at this
  subst e
  subst h0
  refine (sort0Dec_calls w none 0 _).mono ?_
  rintro e w' ⟨rfl, hm⟩
  exact ⟨[], List.Perm.refl _, List.Pairwise.nil, rfl, own_pure hown hm, Mod.of_pure hm⟩
 ·by_cases hx : xs = []
  ·subst hx
   have hn0 : n = 0 := by have := hown.1; simp [decV] at this; omega
   subst hn0
   refine (sort0Dec_calls w (some ⟨g, 0, none⟩) cap _).mono ?_
   rintro e w' ⟨rfl, hm⟩
   exact ⟨[], List.Perm.refl _, List.Pairwise.nil, rfl, own_pure hown hm, Mod.of_pure hm⟩
  ·haveI : Inhabited {d // d ∈ xs} := ⟨⟨xs.head hx, List.head_mem hx⟩⟩
   have hk : ∀ x : {d // d ∈ xs}, (encM x).length = 6 := fun _ => rfl
   rw [decV_attach] at hown
   have hnx := own_lenK (enc := encM) (k := 6) (g := g) (cap := cap) hk (by omega) hown
   have hH := holdsK_own (enc := encM) (k := 6) hk (by omega) hown
   have hs := AnyQ.slices_SortFunc Tryz.srtDec 6 Tryz.isAgg40 Tryz.sizeOf40 encM hk (fun x v hv => by
    simp only [encM, decC, List.mem_cons, List.not_mem_nil, or_false] at hv
    rcases hv with rfl | rfl | rfl | rfl | rfl | rfl <;> rfl) (fun x y : {d // d ∈ xs} => cf x.1 y.1) hO F #[cap0] g 0 cap xs.attach.toArray w eg (fun m os dk hz x y => by
     have h2 := (own_sortedK (enc := encM) (k := 6) (ys := dk.toList) (m := m) (os := os) hk (by omega) hown (by simpa using hz)).2
     rw [Array.toArray_toList] at h2
     exact (hF x.1 y.1 _ x.2 y.2 (h2.mono fun i hi => by subst hi; rfl)).mono fun e w' h => ⟨h.1, h.2.grow⟩) hH (lt_of_heap hb) (by simp; omega)
   have hsz : xs.attach.toArray.size = n := by rw [hnx]; simp
   rw [hsz] at hs
   refine (show Calls Tryz.prog 85 #[.slice (some ⟨g, 0, none⟩) n cap, .func (.func F) #[] #[cap0]] w _ from hs).mono ?_
   rintro e w' ⟨rfl, d, m, os, hp, hq, rfl⟩
   obtain ⟨z1, _, z3⟩ := hp
   have hz' : d.size = n := by rw [z1, hsz]
   have e1 : (d.extract 0 n).toList = d.toList := by rw [← hz', Array.extract_size]
   have e2 : (xs.attach.toArray.extract 0 n).toList = xs.attach := by rw [← hsz, Array.extract_size]
   rw [e1, e2] at z3
   obtain ⟨o1, o2⟩ := own_sortedK (enc := encM) (k := 6) (ys := d.toList) (m := m) (os := os) hk (by omega) hown z3.length_eq
   rw [Array.toArray_toList] at o1 o2
   have hv : d.toList.flatMap encM = decV (d.toList.map (·.1)) := by
    generalize d.toList = ys
    induction ys with
    | nil => rfl
    | cons y t ih => show encM y ++ t.flatMap encM = decC y.1 ++ decV (t.map (·.1)); rw [ih]; rfl
   rw [hv] at o1
   refine ⟨d.toList.map (·.1), by have := z3.map (·.1); rwa [List.attach_map_subtype_val] at this, ?_, rfl, o1, o2.mono fun i hi => by subst hi; rfl⟩
   rw [List.pairwise_map, List.pairwise_iff_getElem]
   intro i j hi hj hij
   have hj' : j < d.size := by simpa using hj
   have hi' : i < d.size := by simpa using hi
   have h := hq i j (by omega) hij (by omega)
   rw [getElem!_pos d i hi', getElem!_pos d j hj'] at h
   simpa [ltOf] using h

end Go.Proofs.YtkkndblcejmmjaaGreatDoor

/- slices.CompactFunc of decisions. -/
namespace Go.Proofs.YtkkndblcejmmjaaGreatDoor
set_option linter.unusedVariables false
set_option linter.unusedSimpArgs false
open Go.RowKit

theorem flatK_set {α : Type} {enc : α → List Value} {k : Nat} (hk : ∀ x, (enc x).length = k) : ∀ (xs : List α) (i j : Nat) (u : Value) (x' : α), j < k → (h : i < xs.length) → enc x' = (enc xs[i]).set j u → (xs.flatMap enc).set (i * k + j) u = (xs.set i x').flatMap enc
 | [], i, j, u, x', hj, h, e => absurd h (by simp)
 | x :: t, 0, j, u, x', hj, h, e => by
  show (enc x ++ t.flatMap enc).set (0 * k + j) u = enc x' ++ t.flatMap enc
  rw [Nat.zero_mul, Nat.zero_add, List.set_append_left _ _ (by rw [hk]; exact hj), e]; rfl
 | x :: t, i + 1, j, u, x', hj, h, e => by
  show (enc x ++ t.flatMap enc).set ((i + 1) * k + j) u = enc x ++ (t.set i x').flatMap enc
  have e1 : (i + 1) * k + j - (enc x).length = i * k + j := by rw [hk, Nat.add_mul]; omega
  rw [List.set_append_right _ _ (by rw [hk, Nat.add_mul]; omega), e1, flatK_set hk t i j u x' hj (by simpa using h) (by simpa using e)]
theorem decC_len (x : DecR) : (decC x).length = 6 := rfl
/-- A decision gets a number. -/
theorem decV_setno (ds : List DecR) (i : Nat) (h : i < ds.length) (k : Int) : (decV ds).set (i * 6) (.int .i64 k) = decV (ds.set i (ds[i].numb k)) :=
 flatK_set decC_len ds i 0 (.int .i64 k) (ds[i].numb k) (by omega) h rfl
theorem decV_set (ds : List DecR) (i : Nat) (h : i < ds.length) (x : DecR) : ((((((decV ds).set (i * 6) (.int .i64 x.no)).set (i * 6 + 1) (.int .i64 x.at_)).set (i * 6 + 2) (.string ⟨x.rev.toArray⟩)).set (i * 6 + 3) (.string ⟨x.item.toArray⟩)).set (i * 6 + 4) (.bool x.sec)).set (i * 6 + 5) (.slice x.A x.vals.length x.c) = decV (ds.set i x) := by
 have hl : ∀ y : DecR, i < (ds.set i y).length := fun y => by simpa using h
 have s1 := flatK_set decC_len ds i 0 (.int .i64 x.no) { ds[i] with no := x.no } (by omega) h rfl
 have s2 := flatK_set decC_len (ds.set i { ds[i] with no := x.no }) i 1 (.int .i64 x.at_) { ds[i] with no := x.no, at_ := x.at_ } (by omega) (hl _) (by simp [decC])
 have s3 := flatK_set decC_len (ds.set i { ds[i] with no := x.no, at_ := x.at_ }) i 2 (.string ⟨x.rev.toArray⟩) { ds[i] with no := x.no, at_ := x.at_, rev := x.rev } (by omega) (hl _) (by simp [decC])
 have s4 := flatK_set decC_len (ds.set i { ds[i] with no := x.no, at_ := x.at_, rev := x.rev }) i 3 (.string ⟨x.item.toArray⟩) { ds[i] with no := x.no, at_ := x.at_, rev := x.rev, item := x.item } (by omega) (hl _) (by simp [decC])
 have s5 := flatK_set decC_len (ds.set i { ds[i] with no := x.no, at_ := x.at_, rev := x.rev, item := x.item }) i 4 (.bool x.sec) { ds[i] with no := x.no, at_ := x.at_, rev := x.rev, item := x.item, sec := x.sec } (by omega) (hl _) (by simp [decC])
 have s6 := flatK_set decC_len (ds.set i { ds[i] with no := x.no, at_ := x.at_, rev := x.rev, item := x.item, sec := x.sec }) i 5 (.slice x.A x.vals.length x.c) x (by omega) (hl _) (by simp [decC])
 simp only [List.set_set] at s2 s3 s4 s5 s6
 show ((((((ds.flatMap decC).set (i * 6 + 0) _).set (i * 6 + 1) _).set (i * 6 + 2) _).set (i * 6 + 3) _).set (i * 6 + 4) _).set (i * 6 + 5) _ = _
 rw [s1, s2, s3, s4, s5, s6]
 rfl
theorem own_setCellsL {base g n cap size : Nat} {e : TypeId} : ∀ (vs : List Value) (o : Nat) (w : World) (xs : List Value), w.ownsRow base e size (.slice (some ⟨g, 0, none⟩) n cap) n xs →
  ∃ ys : List Value, ys.length = xs.length ∧ ys.take o = xs.take o ∧ (w.setCells g o vs).ownsRow base e size (.slice (some ⟨g, 0, none⟩) n cap) n ys ∧ Mod (fun j => j = g) w (w.setCells g o vs)
 | [], o, w, xs, h => ⟨xs, rfl, rfl, h, Mod.refl _ _⟩
 | v :: r, o, w, xs, h => by
  obtain ⟨ys, hl, ht, h2, h3⟩ := own_setCellsL r (o + 1) (w.setCell ⟨g, o, none⟩ v) (xs.set o v) (h.stored o v).1
  refine ⟨ys, by simpa using hl, ?_, h2, (Mod.setCell (S := fun j => j = g) (p := ⟨g, o, none⟩) (Mod.refl _ _) (.inl rfl) _).trans h3⟩
  have := congrArg (List.take o) ht
  rw [List.take_take, List.take_take, Nat.min_eq_left (by omega), List.take_set_of_le (Nat.le_refl _)] at this
  exact this
theorem own_shrinkL {w : World} {base g cap n m size : Nat} {e : TypeId} {xs : List Value} (h : w.ownsRow base e size (.slice (some ⟨g, 0, none⟩) n cap) n xs) (hm : m ≤ n) : w.ownsRow base e size (.slice (some ⟨g, 0, none⟩) m cap) m (xs.take (m * size)) := by
 have hle := Nat.mul_le_mul_right size hm
 rcases h.2 with ⟨h0, _⟩ | ⟨g', cap', cur, hv, hbase, hb, h1, h2, h3, h4⟩
 ·cases h0
 ·cases hv
  have := h.1
  refine ⟨by simp; omega, .inr ⟨g, cap, cur, rfl, hbase, hb, by omega, h2, h3, ?_⟩⟩
  rw [← h4, List.take_take]
  congr 1
  omega
def clrCells (z : Value) (n : Nat) : List Value := (Builtin.zeroCells z.cells n).toList
/-- clear of a slice of structs. -/
theorem run_clear_K {P : Program} (w : World) (t e ty : TypeId) (z : Value) (ht : P.underlying t = some (.slice e)) (hv : ∀ w, (zeroValue e).run P w = .ok z w) (h1 : ∀ u ∈ z.cells.toList, u.oneCell' = true) (b o n c : Nat)
  (hn : 0 < n) (hs : 0 < z.cells.size) (hc : ∀ j, j < n * z.cells.size → (w.cell? ⟨b, o + j, none⟩).isSome = true) (hf : ∀ j, j < n * z.cells.size → w.frozen? ⟨b, o + j, none⟩ = false) :
  (Builtin.clear_ #[t] ty #[.slice (some ⟨b, o, none⟩) n c]).run P w = .ok (.tuple #[]) (w.setCells b o (clrCells z n)) := by
 unfold clrCells
 have hl : (Builtin.zeroCells z.cells n).toList.length = n * z.cells.size := by simp [Builtin.zeroCells]
 have hst := run_storeCells_cells (P := P) b o (Builtin.zeroCells z.cells n).toList 0 w (by rw [hl]; simpa using hc) (by rw [hl]; simpa using hf) (fun v hv' => by
  simp only [Builtin.zeroCells, Array.toList_map, List.mem_map] at hv'
  obtain ⟨i, _, rfl⟩ := hv'
  have hi : i % z.cells.size < z.cells.size := Nat.mod_lt _ hs
  rw [getElem!_pos z.cells _ hi]
  exact h1 _ (by simp))
 simp only [Nat.add_zero] at hst
 obtain ⟨m, rfl⟩ : ∃ m, n = m + 1 := ⟨n - 1, by omega⟩
 simp [Builtin.clear_, run_underlying ht, hv, hst]

end Go.Proofs.YtkkndblcejmmjaaGreatDoor

/- slices.CompactFunc of decisions: the walk. -/
namespace Go.Proofs.YtkkndblcejmmjaaGreatDoor
set_option linter.unusedVariables false
set_option linter.unusedSimpArgs false
open Go.RowKit

theorem own_cellsD {w : World} {base g n cap : Nat} {ys : List DecR} (h : w.ownsRow base 40 6 (.slice (some ⟨g, 0, none⟩) n cap) n (decV ys)) {k q : Nat} (hk : k < ys.length) (hq : q = k * 6) :
  (w.cell? ⟨g, q, none⟩ = some (.int .i64 ys[k].no) ∧ w.cell? ⟨g, q + 1, none⟩ = some (.int .i64 ys[k].at_) ∧ w.cell? ⟨g, q + 2, none⟩ = some (.string ⟨ys[k].rev.toArray⟩) ∧ w.cell? ⟨g, q + 3, none⟩ = some (.string ⟨ys[k].item.toArray⟩) ∧ w.cell? ⟨g, q + 4, none⟩ = some (.bool ys[k].sec) ∧ w.cell? ⟨g, q + 5, none⟩ = some (.slice ys[k].A ys[k].vals.length ys[k].c)) ∧ ∀ j, w.frozen? ⟨g, j, none⟩ = false := by
 subst hq
 have hl := h.1
 rw [decV_len] at hl
 obtain ⟨g0, g1, g2, g3, g4, g5⟩ := decV_get ys k hk
 refine ⟨⟨?_, ?_, ?_, ?_, ?_, ?_⟩, fun j => h.frozenAt j⟩
 ·exact (h.cellAt (k * 6) (by omega)).trans g0
 ·exact (h.cellAt (k * 6 + 1) (by omega)).trans g1
 ·exact (h.cellAt (k * 6 + 2) (by omega)).trans g2
 ·exact (h.cellAt (k * 6 + 3) (by omega)).trans g3
 ·exact (h.cellAt (k * 6 + 4) (by omega)).trans g4
 ·exact (h.cellAt (k * 6 + 5) (by omega)).trans g5
theorem drop_at {α : Type} {xs ys : List α} {p q : Nat} (h : ys.drop p = xs.drop p) (hp : p ≤ q) (h1 : q < ys.length) (h2 : q < xs.length) : ys[q] = xs[q] := by
 have h3 := congrArg (fun l => l[q - p]?) h
 simp only [List.getElem?_drop, show p + (q - p) = q by omega, List.getElem?_eq_getElem h1, List.getElem?_eq_getElem h2] at h3
 exact Option.some.inj h3
theorem decV_app (xs ys : List DecR) : decV (xs ++ ys) = decV xs ++ decV ys := by simp [decV]
theorem decV_take (xs : List DecR) (m : Nat) : (decV xs).take (m * 6) = decV (xs.take m) := by
 rcases Nat.lt_or_ge m xs.length with h | h
 ·have e : xs = xs.take m ++ xs.drop m := (List.take_append_drop m xs).symm
  have e2 : decV xs = decV (xs.take m) ++ decV (xs.drop m) := by rw [← decV_app, ← e]
  rw [e2, List.take_append_of_le_length (by rw [decV_len, List.length_take]; omega), List.take_of_length_le (by rw [decV_len, List.length_take]; omega)]
 ·rw [List.take_of_length_le h, List.take_of_length_le (by rw [decV_len]; omega)]
/-- A decision in a row. -/
def CellD (W : World) (g q : Nat) (x : DecR) : Prop := (W.cell? ⟨g, q, none⟩ = some (.int .i64 x.no) ∧ W.cell? ⟨g, q + 1, none⟩ = some (.int .i64 x.at_) ∧ W.cell? ⟨g, q + 2, none⟩ = some (.string ⟨x.rev.toArray⟩) ∧ W.cell? ⟨g, q + 3, none⟩ = some (.string ⟨x.item.toArray⟩) ∧ W.cell? ⟨g, q + 4, none⟩ = some (.bool x.sec) ∧ W.cell? ⟨g, q + 5, none⟩ = some (.slice x.A x.vals.length x.c))
theorem CellD.pure {W W' : World} {g q : Nat} {x : DecR} (h : CellD W g q x) (hm : Pure W W') : CellD W' g q x := ⟨keepp h.1 hm, keepp h.2.1 hm, keepp h.2.2.1 hm, keepp h.2.2.2.1 hm, keepp h.2.2.2.2.1 hm, keepp h.2.2.2.2.2 hm⟩
theorem own_cellD {w : World} {base g n cap : Nat} {ys : List DecR} (h : w.ownsRow base 40 6 (.slice (some ⟨g, 0, none⟩) n cap) n (decV ys)) {k q : Nat} (hk : k < ys.length) (hq : q = k * 6) : CellD w g q ys[k] := (own_cellsD h hk hq).1
def CpPost (w : World) (base g cap : Nat) (zs : List DecR) (e : Ending) (w' : World) : Prop :=
 e = .returned (.slice (some ⟨g, 0, none⟩) zs.length cap) ∧ w'.ownsRow base 40 6 (.slice (some ⟨g, 0, none⟩) zs.length cap) zs.length (decV zs) ∧ Mod (fun j => j = g) w w'
def CpRel (w : World) (eq : DecR → DecR → Bool) (xs : List DecR) (gk : Nat) (i : Value) (wr : World) : Prop :=
 ∃ j : Nat, xs.length - (j + 1) = gk ∧ j + 1 ≤ xs.length ∧ i = .int .i64 ((j : Int) + 1) ∧ compF eq (xs.take (j + 1)) = xs.take (j + 1) ∧ Pure w wr
def CpRel2 (w : World) (base g cap : Nat) (eq : DecR → DecR → Bool) (xs : List DecR) (j : Nat) (gk : Nat) (a b : Value) (wr : World) : Prop :=
 ∃ (c t : Nat) (ys : List DecR), xs.length - (j + 1) - (t + 1) = gk ∧ t + 1 ≤ xs.length - (j + 1) ∧ a = .int .i64 (c : Int) ∧ b = .int .i64 ((t : Int) + 1) ∧ c = (compF eq (xs.take (j + 1 + t + 1))).length ∧ ys.length = xs.length ∧
  ys.take c = compF eq (xs.take (j + 1 + t + 1)) ∧ ys.drop (j + 1 + t) = xs.drop (j + 1 + t) ∧ c ≤ j + 1 + t ∧ wr.ownsRow base 40 6 (.slice (some ⟨g, 0, none⟩) xs.length cap) xs.length (decV ys) ∧ Mod (fun j => j = g) w wr
theorem compF_01 (eq : DecR → DecR → Bool) : ∀ {xs : List DecR}, xs.length < 2 → compF eq xs = xs
 | [], _ => rfl
 | [_], _ => rfl
 | _ :: _ :: _, h => by simp at h; omega
theorem zero_decW (W : World) : (zeroValue 40).run Tryz.prog W = .ok (.agg #[.int .i64 0, .int .i64 0, .string ⟨#[]⟩, .string ⟨#[]⟩, .bool false, .slice none 0 0]) W := by kernel_rfl

set_option maxRecDepth 100000 in
set_option maxHeartbeats 8000000 in
theorem compactDec_calls (w : World) (base g cap : Nat) (xs : List DecR) (F : Nat) (c1 : Value) (eq : DecR → DecR → Bool) (hn : xs.length ≤ 1000000) (hown : w.ownsRow base 40 6 (.slice (some ⟨g, 0, none⟩) xs.length cap) xs.length (decV xs))
  (hcf : ∀ (x y : DecR) (W : World), Sem.run Tryz.prog (callFunc F #[DecVal x, DecVal y, c1]) W = .ok (.enter F #[DecVal x, DecVal y, c1]) W)
  (hF : ∀ (x y : DecR) (W : World), x ∈ xs → y ∈ xs → Mod (fun j => j = g) w W → Calls Tryz.prog F #[DecVal x, DecVal y, c1] W (BoolPost W (eq x y))) :
  Calls Tryz.prog 86 #[.slice (some ⟨g, 0, none⟩) xs.length cap, .func (.func F) #[] #[c1]] w (CpPost w base g cap (compF eq xs)) := by
 have HF := Lib.hid hF
 have HOWN := Lib.hid hown
 clear hF
 have hcap : xs.length ≤ cap ∧ cap ≤ 9223372036854775807 := by
  rcases hown.2 with ⟨h0, _⟩ | ⟨g', cap', cur, hv, hbase, hb, h1, h2, h3, h4⟩
  ·cases h0
  ·cases hv
   exact ⟨h1, by simpa [maxLen] using h2⟩
 obtain ⟨hcap1, hcap2⟩ := hcap
 clear hown
 simp only [DecVal, decC] at hcf
 generalize hnx : xs.length = n at *
 have HNX := Lib.hid hnx
 clear hnx
 go_enter Tryz.func86, Tryz.ntmps86
 by_cases h2 : n < 2
 ·have HE := Lib.hid (compF_01 eq (xs := xs) (by rw [HNX.out]; exact h2))
  go_wp2_with fail
  go_ret
  exact ⟨by rw [HE.out, HNX.out]; rfl, by rw [HE.out, HNX.out]; exact HOWN.out, Mod.refl _ _⟩
 go_wp2_with fail
 go_loopg [5] (n - 1) (fun gk i wr => CpRel w eq xs gk i wr)
 case atStart => exact ⟨0, by rw [HNX.out], by rw [HNX.out]; omega, rfl, by rw [compF_01 eq (by rw [List.length_take]; omega)], Mod.refl _ _⟩
 case round =>
  obtain ⟨j, rfl, hj, rfl, hcj, hm⟩ := hrel
  rw [HNX.out] at hj
  have HCJ := Lib.hid hcj
  clear hcj
  by_cases hlt : j + 1 < n
  ·have hj1 : j + 1 < xs.length := by rw [HNX.out]; exact hlt
   have hj0 : j < xs.length := by omega
   have HC1 := Lib.hid (own_cellD (own_pure HOWN.out hm) hj1 rfl)
   have HC0 := Lib.hid (own_cellD (own_pure HOWN.out hm) hj0 rfl)
   have HST := Lib.hid (compF_step eq hj1)
   have HC := Lib.hid (fun W (h : Pure wr W) => HF.out xs[j + 1] xs[j] W (List.getElem_mem _) (List.getElem_mem _) (Mod.of_pure (hm.trans h)))
   have HX := HC.out
   simp only [DecVal, decC] at HX
   replace HC := Lib.hid HX
   clear HX
   generalize hx : xs[j + 1] = x at *
   generalize hy : xs[j] = y at *
   have i1 : (0 : Int) ≤ (j : Int) := by omega
   have i2 : (j : Int) + 1 < (n : Int) := by omega
   have i3 : j < n := by omega
   go_upto_region 6 with (fail)
   have HGs := Lib.hid (show ∀ (D : Nat → Bool) (zzi : Nat) (zq zq' : World), (fun _ zq => (fun Z => CellD Z g ((j + 1) * 6) x ∧ CellD Z g (j * 6) y) zq) D zq → Mod (fun _ => False) zq zq' → (fun _ zq => (fun Z => CellD Z g ((j + 1) * 6) x ∧ CellD Z g (j * 6) y) zq) (upd D zzi true) zq' from by intro D zzi zq zq' h hm; (exact ⟨h.1.pure hm, h.2.pure hm⟩))
   refine wp_region_inv (by kernel_rfl) (by kernel_rfl) (InvF (R := Mod (fun _ => False)) [.is (.func (.func F) #[] #[c1]),
     .is (.slice (some ⟨g, 0, none⟩) n cap),
     .is (.int .i64 ((j : Int) + 1)),
     .is (.pointer (some ⟨g, (j + 1) * 6, none⟩)),
     .is (.agg #[.int .i64 x.no, .int .i64 x.at_, .string ⟨x.rev.toArray⟩, .string ⟨x.item.toArray⟩, .bool x.sec, .slice x.A x.vals.length x.c]),
     .is (.slice (some ⟨g, 0, none⟩) n cap),
     .is (.int .i64 ((j : Int) + 1)),
     .is (.int .i64 (j : Int)),
     .is (.pointer (some ⟨g, j * 6, none⟩)),
     .is (.agg #[.int .i64 y.no, .int .i64 y.at_, .string ⟨y.rev.toArray⟩, .string ⟨y.item.toArray⟩, .bool y.sec, .slice y.A y.vals.length y.c]),
     .is (.bool (eq x y))]
     (PB wr (fun _ => False) wr.heap.size (fun _ zq => (fun Z => CellD Z g ((j + 1) * 6) x ∧ CellD Z g (j * 6) y) zq))) (InvF.start (PB.start (Mod.refl _ _) (Nat.le_refl _) (⟨HC1.out.pure (Mod.refl _ _).drew, HC0.out.pure (Mod.refl _ _).drew⟩))) ?_ ?_
   ·refine .cons ?_ (.cons ?_ (.cons ?_ (.cons ?_ (.cons ?_ (.cons ?_ (.cons ?_ (.cons ?_ (.cons ?_ (.cons ?_ (.cons ?_ .nil))))))))))
    ·intro D V zw1 a hR hI K hK
     obtain ⟨hM1, hB1, hG1⟩ := hI.1
     have ze1 := hR.frame.other (t := 1) (by kernel_rfl) rfl
     rw [if_pos (by rfl)]
     go_simp
     exact hK (.func (.func F) #[] #[c1]) _ (hI.next hR (by kernel_rfl) (Mod.refl _ _) (PB.quiet hI.1 (Mod.refl _ _) (HGs.out D 0 zw1 zw1 (hI.1).g (Mod.refl _ _))) (upd_same V 0 _))
    ·intro D V zw1 a hR hI K hK
     obtain ⟨hM1, hB1, hG1⟩ := hI.1
     have ze0 := hR.frame.other (t := 0) (by kernel_rfl) rfl
     rw [if_pos (by rfl)]
     go_simp
     exact hK (.slice (some ⟨g, 0, none⟩) n cap) _ (hI.next hR (by kernel_rfl) (Mod.refl _ _) (PB.quiet hI.1 (Mod.refl _ _) (HGs.out D 1 zw1 zw1 (hI.1).g (Mod.refl _ _))) (upd_same V 1 _))
    ·intro D V zw1 a hR hI K hK
     obtain ⟨hM1, hB1, hG1⟩ := hI.1
     have ze5 := hR.frame.other (t := 5) (by kernel_rfl) rfl
     rw [if_pos (by rfl)]
     go_simp
     exact hK (.int .i64 ((j : Int) + 1)) _ (hI.next hR (by kernel_rfl) (Mod.refl _ _) (PB.quiet hI.1 (Mod.refl _ _) (HGs.out D 2 zw1 zw1 (hI.1).g (Mod.refl _ _))) (upd_same V 2 _))
    ·intro D V zw1 a hR hI K hK
     obtain ⟨hM1, hB1, hG1⟩ := hI.1
     have zd1 := hR.pred 1 (by kernel_rfl)
     have zF1 : V 1 = .slice (some ⟨g, 0, none⟩) n cap := hI.2 1 zd1 rfl
     have zf1 := zF1; clear zF1
     have zd2 := hR.pred 2 (by kernel_rfl)
     have zF2 : V 2 = .int .i64 ((j : Int) + 1) := hI.2 2 zd2 rfl
     have zf2 := zF2; clear zF2
     have ze19 := hR.frame.done (t := 19) (j := 1) (by kernel_rfl) hR.ok zd1
     have ze20 := hR.frame.done (t := 20) (j := 2) (by kernel_rfl) hR.ok zd2
     rw [if_pos (by rfl)]
     go_simp
     exact hK (.pointer (some ⟨g, (j + 1) * 6, none⟩)) _ (hI.next hR (by kernel_rfl) (Mod.refl _ _) (PB.quiet hI.1 (Mod.refl _ _) (HGs.out D 3 zw1 zw1 (hI.1).g (Mod.refl _ _))) (upd_same V 3 _))
    ·intro D V zw1 a hR hI K hK
     obtain ⟨hM1, hB1, hG1⟩ := hI.1
     have zd3 := hR.pred 3 (by kernel_rfl)
     have zF3 : V 3 = .pointer (some ⟨g, (j + 1) * 6, none⟩) := hI.2 3 zd3 rfl
     have zf3 := zF3; clear zF3
     have ze21 := hR.frame.done (t := 21) (j := 3) (by kernel_rfl) hR.ok zd3
     obtain ⟨p0, p1, p2, p3, p4, p5⟩ := hG1.1
     rw [if_pos (by rfl)]
     go_simp
     exact hK (.agg #[.int .i64 x.no, .int .i64 x.at_, .string ⟨x.rev.toArray⟩, .string ⟨x.item.toArray⟩, .bool x.sec, .slice x.A x.vals.length x.c]) _ (hI.next hR (by kernel_rfl) (Mod.refl _ _) (PB.quiet hI.1 (Mod.refl _ _) (HGs.out D 4 zw1 zw1 (hI.1).g (Mod.refl _ _))) (upd_same V 4 _))
    ·intro D V zw1 a hR hI K hK
     obtain ⟨hM1, hB1, hG1⟩ := hI.1
     have ze0 := hR.frame.other (t := 0) (by kernel_rfl) rfl
     rw [if_pos (by rfl)]
     go_simp
     exact hK (.slice (some ⟨g, 0, none⟩) n cap) _ (hI.next hR (by kernel_rfl) (Mod.refl _ _) (PB.quiet hI.1 (Mod.refl _ _) (HGs.out D 5 zw1 zw1 (hI.1).g (Mod.refl _ _))) (upd_same V 5 _))
    ·intro D V zw1 a hR hI K hK
     obtain ⟨hM1, hB1, hG1⟩ := hI.1
     have ze5 := hR.frame.other (t := 5) (by kernel_rfl) rfl
     rw [if_pos (by rfl)]
     go_simp
     exact hK (.int .i64 ((j : Int) + 1)) _ (hI.next hR (by kernel_rfl) (Mod.refl _ _) (PB.quiet hI.1 (Mod.refl _ _) (HGs.out D 6 zw1 zw1 (hI.1).g (Mod.refl _ _))) (upd_same V 6 _))
    ·intro D V zw1 a hR hI K hK
     obtain ⟨hM1, hB1, hG1⟩ := hI.1
     have zd6 := hR.pred 6 (by kernel_rfl)
     have zF6 : V 6 = .int .i64 ((j : Int) + 1) := hI.2 6 zd6 rfl
     have zf6 := zF6; clear zF6
     have ze24 := hR.frame.done (t := 24) (j := 6) (by kernel_rfl) hR.ok zd6
     have hw : IntKind.i64.wrap (j : Int) = (j : Int) := IntWalk.i64_in _ (by omega)
     rw [if_pos (by rfl)]
     go_simp
     exact hK (.int .i64 (j : Int)) _ (hI.next hR (by kernel_rfl) (Mod.refl _ _) (PB.quiet hI.1 (Mod.refl _ _) (HGs.out D 7 zw1 zw1 (hI.1).g (Mod.refl _ _))) (upd_same V 7 _))
    ·intro D V zw1 a hR hI K hK
     obtain ⟨hM1, hB1, hG1⟩ := hI.1
     have zd5 := hR.pred 5 (by kernel_rfl)
     have zF5 : V 5 = .slice (some ⟨g, 0, none⟩) n cap := hI.2 5 zd5 rfl
     have zf5 := zF5; clear zF5
     have zd7 := hR.pred 7 (by kernel_rfl)
     have zF7 : V 7 = .int .i64 (j : Int) := hI.2 7 zd7 rfl
     have zf7 := zF7; clear zF7
     have ze23 := hR.frame.done (t := 23) (j := 5) (by kernel_rfl) hR.ok zd5
     have ze25 := hR.frame.done (t := 25) (j := 7) (by kernel_rfl) hR.ok zd7
     rw [if_pos (by rfl)]
     go_simp
     exact hK (.pointer (some ⟨g, j * 6, none⟩)) _ (hI.next hR (by kernel_rfl) (Mod.refl _ _) (PB.quiet hI.1 (Mod.refl _ _) (HGs.out D 8 zw1 zw1 (hI.1).g (Mod.refl _ _))) (upd_same V 8 _))
    ·intro D V zw1 a hR hI K hK
     obtain ⟨hM1, hB1, hG1⟩ := hI.1
     have zd8 := hR.pred 8 (by kernel_rfl)
     have zF8 : V 8 = .pointer (some ⟨g, j * 6, none⟩) := hI.2 8 zd8 rfl
     have zf8 := zF8; clear zF8
     have ze26 := hR.frame.done (t := 26) (j := 8) (by kernel_rfl) hR.ok zd8
     obtain ⟨p0, p1, p2, p3, p4, p5⟩ := hG1.2
     rw [if_pos (by rfl)]
     go_simp
     exact hK (.agg #[.int .i64 y.no, .int .i64 y.at_, .string ⟨y.rev.toArray⟩, .string ⟨y.item.toArray⟩, .bool y.sec, .slice y.A y.vals.length y.c]) _ (hI.next hR (by kernel_rfl) (Mod.refl _ _) (PB.quiet hI.1 (Mod.refl _ _) (HGs.out D 9 zw1 zw1 (hI.1).g (Mod.refl _ _))) (upd_same V 9 _))
    ·intro D V zw1 a hR hI K hK
     obtain ⟨hM1, hB1, hG1⟩ := hI.1
     have zd0 := hR.pred 0 (by kernel_rfl)
     have zF0 : V 0 = .func (.func F) #[] #[c1] := hI.2 0 zd0 rfl
     have zf0 := zF0; clear zF0
     have zd4 := hR.pred 4 (by kernel_rfl)
     have zF4 : V 4 = .agg #[.int .i64 x.no, .int .i64 x.at_, .string ⟨x.rev.toArray⟩, .string ⟨x.item.toArray⟩, .bool x.sec, .slice x.A x.vals.length x.c] := hI.2 4 zd4 rfl
     have zf4 := zF4; clear zF4
     have zd9 := hR.pred 9 (by kernel_rfl)
     have zF9 : V 9 = .agg #[.int .i64 y.no, .int .i64 y.at_, .string ⟨y.rev.toArray⟩, .string ⟨y.item.toArray⟩, .bool y.sec, .slice y.A y.vals.length y.c] := hI.2 9 zd9 rfl
     have zf9 := zF9; clear zF9
     have ze18 := hR.frame.done (t := 18) (j := 0) (by kernel_rfl) hR.ok zd0
     have ze22 := hR.frame.done (t := 22) (j := 4) (by kernel_rfl) hR.ok zd4
     have ze27 := hR.frame.done (t := 27) (j := 9) (by kernel_rfl) hR.ok zd9
     rw [if_pos (by rfl)]
     go_simp
     refine (HC.out zw1 hM1).mono ?_
     rintro e zw2 ⟨rfl, hm2⟩
     exact hK (.bool (eq x y)) _ (hI.next hR (by kernel_rfl) hm2 (PB.quiet hI.1 hm2 (HGs.out D 10 _ _ (hI.1).g hm2)) (upd_same V 10 _))
   ·intro D V w1 hD hI
    obtain ⟨hM1, hB1, hG1⟩ := hI.1
    have hMx := hM1
    clear hM1
    have hBx := hB1
    clear hB1
    have hGx := hG1
    clear hG1
    have zF0 : V 0 = .func (.func F) #[] #[c1] := hI.2 0 (hD 0 (by decide)) rfl
    have zf0 := zF0; clear zF0
    have zF1 : V 1 = .slice (some ⟨g, 0, none⟩) n cap := hI.2 1 (hD 1 (by decide)) rfl
    have zf1 := zF1; clear zF1
    have zF2 : V 2 = .int .i64 ((j : Int) + 1) := hI.2 2 (hD 2 (by decide)) rfl
    have zf2 := zF2; clear zF2
    have zF3 : V 3 = .pointer (some ⟨g, (j + 1) * 6, none⟩) := hI.2 3 (hD 3 (by decide)) rfl
    have zf3 := zF3; clear zF3
    have zF4 : V 4 = .agg #[.int .i64 x.no, .int .i64 x.at_, .string ⟨x.rev.toArray⟩, .string ⟨x.item.toArray⟩, .bool x.sec, .slice x.A x.vals.length x.c] := hI.2 4 (hD 4 (by decide)) rfl
    have zf4 := zF4; clear zF4
    have zF5 : V 5 = .slice (some ⟨g, 0, none⟩) n cap := hI.2 5 (hD 5 (by decide)) rfl
    have zf5 := zF5; clear zF5
    have zF6 : V 6 = .int .i64 ((j : Int) + 1) := hI.2 6 (hD 6 (by decide)) rfl
    have zf6 := zF6; clear zF6
    have zF7 : V 7 = .int .i64 (j : Int) := hI.2 7 (hD 7 (by decide)) rfl
    have zf7 := zF7; clear zF7
    have zF8 : V 8 = .pointer (some ⟨g, j * 6, none⟩) := hI.2 8 (hD 8 (by decide)) rfl
    have zf8 := zF8; clear zF8
    have zF9 : V 9 = .agg #[.int .i64 y.no, .int .i64 y.at_, .string ⟨y.rev.toArray⟩, .string ⟨y.item.toArray⟩, .bool y.sec, .slice y.A y.vals.length y.c] := hI.2 9 (hD 9 (by decide)) rfl
    have zf9 := zF9; clear zF9
    have zF10 : V 10 = .bool (eq x y) := hI.2 10 (hD 10 (by decide)) rfl
    have zf10 := zF10; clear zF10
    clear hI hD HGs
    simp only [frAll, Act.put, List.setIfInBounds_toArray, List.set_cons_zero, List.set_cons_succ, Nat.zero_add, Nat.reduceAdd, zf0, zf1, zf2, zf3, zf4, zf5, zf6, zf7, zf8, zf9, zf10]
    clear zf0 zf1 zf2 zf3 zf4 zf5 zf6 zf7 zf8 zf9 zf10
    clear V D
    have HM1 := Lib.hid (hm.trans hMx)
    replace HOWN := Lib.hid (own_pure HOWN.out HM1.out)
    clear hMx hGx hBx HC HC0 HC1 hm
    cases he : eq x y
    ·have HE := Lib.hid he
     go_wp2_with fail
     go_roundg (n - (j + 1 + 1))
     case measure => rw [HNX.out]; omega
     case rel =>
      refine ⟨j + 1, by rw [HNX.out], by rw [HNX.out]; omega, by simp, ?_, HM1.out⟩
      have h := HST.out
      rw [HE.out, HCJ.out] at h
      rw [h, List.take_succ_eq_append_getElem hj1, hx]
      simp
    ·have HE := Lib.hid he
     clear he
     have HS0 : Hid (compF eq (xs.take (j + 1 + 1)) = xs.take (j + 1)) := Lib.hid (by
      have h := HST.out
      rw [HE.out, HCJ.out] at h
      simpa using h)
     clear HST HCJ HE hx hy
     have hl1 : (xs.take (j + 1)).length = j + 1 := by rw [List.length_take, HNX.out]; omega
     have HL1 := Lib.hid hl1
     clear hl1
     have i4 : j + 1 ≤ n := by omega
     have i5 : j + 1 ≤ cap := by omega
     have HM1m := Lib.hid (Mod.of_pure (S := fun q => q = g) HM1.out)
     have HOW0 := Lib.hid HOWN.out
     go_wp2_with fail
     obtain ⟨wo, hwo⟩ : ∃ W, W = w1 := ⟨w1, rfl⟩
     go_loopg [5, 7] (n - (j + 1) - 1) (fun gk a b wr => CpRel2 w base g cap eq xs j gk a b wr)
     case atStart =>
      refine ⟨j + 1, 0, xs, by rw [HNX.out], by rw [HNX.out]; omega, by simp, rfl, by rw [HS0.out, HL1.out], rfl, ?_, rfl, by omega, by rw [HNX.out]; exact HOW0.out, HM1m.out⟩
      rw [HS0.out]
     case round =>
      clear hwo HOW0 HM1m HM1 HS0 HL1
      obtain ⟨c, t, ys, rfl, ht, rfl, rfl, hcl, hyl, hyt, hyd, hc, hown, hm⟩ := hrel
      rw [HNX.out] at ht hyl hown
      have HYL := Lib.hid hyl
      have HYT := Lib.hid hyt
      have HYD := Lib.hid hyd
      have HCL := Lib.hid hcl
      have HOW := Lib.hid hown
      clear hyl hyt hyd hcl hown
      by_cases hlt2 : t + 1 < n - (j + 1)
      ·have hp1 : j + 1 + t + 1 < xs.length := by rw [HNX.out]; omega
       have hp0 : j + 1 + t < xs.length := by omega
       have hy1 : j + 1 + t + 1 < ys.length := by rw [HYL.out]; omega
       have hy0 : j + 1 + t < ys.length := by omega
       have HD1 := Lib.hid (own_cellD HOW.out hy1 (q := (j + 1) * 6 + (t + 1) * 6) (by omega))
       have HD0 := Lib.hid (own_cellD HOW.out hy0 (q := (j + 1) * 6 + t * 6) (by omega))
       have hX := HD1.out
       have hY := HD0.out
       rw [drop_at HYD.out (by omega) hy1 hp1] at hX
       rw [drop_at HYD.out (by omega) hy0 hp0] at hY
       replace HD1 := Lib.hid hX
       replace HD0 := Lib.hid hY
       clear hX hY
       have HST := Lib.hid (compF_step eq hp1)
       have HC := Lib.hid (fun W (h : Pure wr W) => HF.out xs[j + 1 + t + 1] xs[j + 1 + t] W (List.getElem_mem _) (List.getElem_mem _) (hm.trans (Mod.of_pure h)))
       have HX := HC.out
       simp only [DecVal, decC] at HX
       replace HC := Lib.hid HX
       clear HX
       generalize hx : xs[j + 1 + t + 1] = x at *
       generalize hy : xs[j + 1 + t] = y at *
       have k1 : (0 : Int) ≤ (t : Int) := by omega
       have k2 : (t : Int) + 1 < ((n - (j + 1) : Nat) : Int) := by omega
       have k3 : t < n - (j + 1) := by omega
       go_upto_region 11 with (fail)
       have HGs := Lib.hid (show ∀ (D : Nat → Bool) (zzi : Nat) (zq zq' : World), (fun _ zq => (fun Z => CellD Z g ((j + 1) * 6 + (t + 1) * 6) x ∧ CellD Z g ((j + 1) * 6 + t * 6) y) zq) D zq → Mod (fun _ => False) zq zq' → (fun _ zq => (fun Z => CellD Z g ((j + 1) * 6 + (t + 1) * 6) x ∧ CellD Z g ((j + 1) * 6 + t * 6) y) zq) (upd D zzi true) zq' from by intro D zzi zq zq' h hm; (exact ⟨h.1.pure hm, h.2.pure hm⟩))
       refine wp_region_inv (by kernel_rfl) (by kernel_rfl) (InvF (R := Mod (fun _ => False)) [.is (.func (.func F) #[] #[c1]),
         .is (.slice (some ⟨g, (j + 1) * 6, none⟩) (n - (j + 1)) (cap - (j + 1))),
         .is (.int .i64 ((t : Int) + 1)),
         .is (.pointer (some ⟨g, (j + 1) * 6 + (t + 1) * 6, none⟩)),
         .is (.agg #[.int .i64 x.no, .int .i64 x.at_, .string ⟨x.rev.toArray⟩, .string ⟨x.item.toArray⟩, .bool x.sec, .slice x.A x.vals.length x.c]),
         .is (.slice (some ⟨g, (j + 1) * 6, none⟩) (n - (j + 1)) (cap - (j + 1))),
         .is (.int .i64 ((t : Int) + 1)),
         .is (.int .i64 (t : Int)),
         .is (.pointer (some ⟨g, (j + 1) * 6 + t * 6, none⟩)),
         .is (.agg #[.int .i64 y.no, .int .i64 y.at_, .string ⟨y.rev.toArray⟩, .string ⟨y.item.toArray⟩, .bool y.sec, .slice y.A y.vals.length y.c]),
         .is (.bool (eq x y)),
         .is (.bool (!eq x y))]
         (PB wr (fun _ => False) wr.heap.size (fun _ zq => (fun Z => CellD Z g ((j + 1) * 6 + (t + 1) * 6) x ∧ CellD Z g ((j + 1) * 6 + t * 6) y) zq))) (InvF.start (PB.start (Mod.refl _ _) (Nat.le_refl _) (⟨HD1.out.pure (Mod.refl _ _).drew, HD0.out.pure (Mod.refl _ _).drew⟩))) ?_ ?_
       ·refine .cons ?_ (.cons ?_ (.cons ?_ (.cons ?_ (.cons ?_ (.cons ?_ (.cons ?_ (.cons ?_ (.cons ?_ (.cons ?_ (.cons ?_ (.cons ?_ .nil)))))))))))
        ·intro D V zw1 a hR hI K hK
         obtain ⟨hM1, hB1, hG1⟩ := hI.1
         have ze1 := hR.frame.other (t := 1) (by kernel_rfl) rfl
         rw [if_pos (by rfl)]
         go_simp
         exact hK (.func (.func F) #[] #[c1]) _ (hI.next hR (by kernel_rfl) (Mod.refl _ _) (PB.quiet hI.1 (Mod.refl _ _) (HGs.out D 0 zw1 zw1 (hI.1).g (Mod.refl _ _))) (upd_same V 0 _))
        ·intro D V zw1 a hR hI K hK
         obtain ⟨hM1, hB1, hG1⟩ := hI.1
         have ze6 := hR.frame.other (t := 6) (by kernel_rfl) rfl
         rw [if_pos (by rfl)]
         go_simp
         exact hK (.slice (some ⟨g, (j + 1) * 6, none⟩) (n - (j + 1)) (cap - (j + 1))) _ (hI.next hR (by kernel_rfl) (Mod.refl _ _) (PB.quiet hI.1 (Mod.refl _ _) (HGs.out D 1 zw1 zw1 (hI.1).g (Mod.refl _ _))) (upd_same V 1 _))
        ·intro D V zw1 a hR hI K hK
         obtain ⟨hM1, hB1, hG1⟩ := hI.1
         have ze7 := hR.frame.other (t := 7) (by kernel_rfl) rfl
         rw [if_pos (by rfl)]
         go_simp
         exact hK (.int .i64 ((t : Int) + 1)) _ (hI.next hR (by kernel_rfl) (Mod.refl _ _) (PB.quiet hI.1 (Mod.refl _ _) (HGs.out D 2 zw1 zw1 (hI.1).g (Mod.refl _ _))) (upd_same V 2 _))
        ·intro D V zw1 a hR hI K hK
         obtain ⟨hM1, hB1, hG1⟩ := hI.1
         have zd1 := hR.pred 1 (by kernel_rfl)
         have zF1 : V 1 = .slice (some ⟨g, (j + 1) * 6, none⟩) (n - (j + 1)) (cap - (j + 1)) := hI.2 1 zd1 rfl
         have zf1 := zF1; clear zF1
         have zd2 := hR.pred 2 (by kernel_rfl)
         have zF2 : V 2 = .int .i64 ((t : Int) + 1) := hI.2 2 zd2 rfl
         have zf2 := zF2; clear zF2
         have ze39 := hR.frame.done (t := 39) (j := 1) (by kernel_rfl) hR.ok zd1
         have ze40 := hR.frame.done (t := 40) (j := 2) (by kernel_rfl) hR.ok zd2
         rw [if_pos (by rfl)]
         go_simp
         exact hK (.pointer (some ⟨g, (j + 1) * 6 + (t + 1) * 6, none⟩)) _ (hI.next hR (by kernel_rfl) (Mod.refl _ _) (PB.quiet hI.1 (Mod.refl _ _) (HGs.out D 3 zw1 zw1 (hI.1).g (Mod.refl _ _))) (upd_same V 3 _))
        ·intro D V zw1 a hR hI K hK
         obtain ⟨hM1, hB1, hG1⟩ := hI.1
         have zd3 := hR.pred 3 (by kernel_rfl)
         have zF3 : V 3 = .pointer (some ⟨g, (j + 1) * 6 + (t + 1) * 6, none⟩) := hI.2 3 zd3 rfl
         have zf3 := zF3; clear zF3
         have ze41 := hR.frame.done (t := 41) (j := 3) (by kernel_rfl) hR.ok zd3
         obtain ⟨p0, p1, p2, p3, p4, p5⟩ := hG1.1
         rw [if_pos (by rfl)]
         go_simp
         exact hK (.agg #[.int .i64 x.no, .int .i64 x.at_, .string ⟨x.rev.toArray⟩, .string ⟨x.item.toArray⟩, .bool x.sec, .slice x.A x.vals.length x.c]) _ (hI.next hR (by kernel_rfl) (Mod.refl _ _) (PB.quiet hI.1 (Mod.refl _ _) (HGs.out D 4 zw1 zw1 (hI.1).g (Mod.refl _ _))) (upd_same V 4 _))
        ·intro D V zw1 a hR hI K hK
         obtain ⟨hM1, hB1, hG1⟩ := hI.1
         have ze6 := hR.frame.other (t := 6) (by kernel_rfl) rfl
         rw [if_pos (by rfl)]
         go_simp
         exact hK (.slice (some ⟨g, (j + 1) * 6, none⟩) (n - (j + 1)) (cap - (j + 1))) _ (hI.next hR (by kernel_rfl) (Mod.refl _ _) (PB.quiet hI.1 (Mod.refl _ _) (HGs.out D 5 zw1 zw1 (hI.1).g (Mod.refl _ _))) (upd_same V 5 _))
        ·intro D V zw1 a hR hI K hK
         obtain ⟨hM1, hB1, hG1⟩ := hI.1
         have ze7 := hR.frame.other (t := 7) (by kernel_rfl) rfl
         rw [if_pos (by rfl)]
         go_simp
         exact hK (.int .i64 ((t : Int) + 1)) _ (hI.next hR (by kernel_rfl) (Mod.refl _ _) (PB.quiet hI.1 (Mod.refl _ _) (HGs.out D 6 zw1 zw1 (hI.1).g (Mod.refl _ _))) (upd_same V 6 _))
        ·intro D V zw1 a hR hI K hK
         obtain ⟨hM1, hB1, hG1⟩ := hI.1
         have zd6 := hR.pred 6 (by kernel_rfl)
         have zF6 : V 6 = .int .i64 ((t : Int) + 1) := hI.2 6 zd6 rfl
         have zf6 := zF6; clear zF6
         have ze44 := hR.frame.done (t := 44) (j := 6) (by kernel_rfl) hR.ok zd6
         have hw : IntKind.i64.wrap (t : Int) = (t : Int) := IntWalk.i64_in _ (by omega)
         rw [if_pos (by rfl)]
         go_simp
         exact hK (.int .i64 (t : Int)) _ (hI.next hR (by kernel_rfl) (Mod.refl _ _) (PB.quiet hI.1 (Mod.refl _ _) (HGs.out D 7 zw1 zw1 (hI.1).g (Mod.refl _ _))) (upd_same V 7 _))
        ·intro D V zw1 a hR hI K hK
         obtain ⟨hM1, hB1, hG1⟩ := hI.1
         have zd5 := hR.pred 5 (by kernel_rfl)
         have zF5 : V 5 = .slice (some ⟨g, (j + 1) * 6, none⟩) (n - (j + 1)) (cap - (j + 1)) := hI.2 5 zd5 rfl
         have zf5 := zF5; clear zF5
         have zd7 := hR.pred 7 (by kernel_rfl)
         have zF7 : V 7 = .int .i64 (t : Int) := hI.2 7 zd7 rfl
         have zf7 := zF7; clear zF7
         have ze43 := hR.frame.done (t := 43) (j := 5) (by kernel_rfl) hR.ok zd5
         have ze45 := hR.frame.done (t := 45) (j := 7) (by kernel_rfl) hR.ok zd7
         rw [if_pos (by rfl)]
         go_simp
         exact hK (.pointer (some ⟨g, (j + 1) * 6 + t * 6, none⟩)) _ (hI.next hR (by kernel_rfl) (Mod.refl _ _) (PB.quiet hI.1 (Mod.refl _ _) (HGs.out D 8 zw1 zw1 (hI.1).g (Mod.refl _ _))) (upd_same V 8 _))
        ·intro D V zw1 a hR hI K hK
         obtain ⟨hM1, hB1, hG1⟩ := hI.1
         have zd8 := hR.pred 8 (by kernel_rfl)
         have zF8 : V 8 = .pointer (some ⟨g, (j + 1) * 6 + t * 6, none⟩) := hI.2 8 zd8 rfl
         have zf8 := zF8; clear zF8
         have ze46 := hR.frame.done (t := 46) (j := 8) (by kernel_rfl) hR.ok zd8
         obtain ⟨p0, p1, p2, p3, p4, p5⟩ := hG1.2
         rw [if_pos (by rfl)]
         go_simp
         exact hK (.agg #[.int .i64 y.no, .int .i64 y.at_, .string ⟨y.rev.toArray⟩, .string ⟨y.item.toArray⟩, .bool y.sec, .slice y.A y.vals.length y.c]) _ (hI.next hR (by kernel_rfl) (Mod.refl _ _) (PB.quiet hI.1 (Mod.refl _ _) (HGs.out D 9 zw1 zw1 (hI.1).g (Mod.refl _ _))) (upd_same V 9 _))
        ·intro D V zw1 a hR hI K hK
         obtain ⟨hM1, hB1, hG1⟩ := hI.1
         have zd0 := hR.pred 0 (by kernel_rfl)
         have zF0 : V 0 = .func (.func F) #[] #[c1] := hI.2 0 zd0 rfl
         have zf0 := zF0; clear zF0
         have zd4 := hR.pred 4 (by kernel_rfl)
         have zF4 : V 4 = .agg #[.int .i64 x.no, .int .i64 x.at_, .string ⟨x.rev.toArray⟩, .string ⟨x.item.toArray⟩, .bool x.sec, .slice x.A x.vals.length x.c] := hI.2 4 zd4 rfl
         have zf4 := zF4; clear zF4
         have zd9 := hR.pred 9 (by kernel_rfl)
         have zF9 : V 9 = .agg #[.int .i64 y.no, .int .i64 y.at_, .string ⟨y.rev.toArray⟩, .string ⟨y.item.toArray⟩, .bool y.sec, .slice y.A y.vals.length y.c] := hI.2 9 zd9 rfl
         have zf9 := zF9; clear zF9
         have ze38 := hR.frame.done (t := 38) (j := 0) (by kernel_rfl) hR.ok zd0
         have ze42 := hR.frame.done (t := 42) (j := 4) (by kernel_rfl) hR.ok zd4
         have ze47 := hR.frame.done (t := 47) (j := 9) (by kernel_rfl) hR.ok zd9
         rw [if_pos (by rfl)]
         go_simp
         refine (HC.out zw1 hM1).mono ?_
         rintro e zw2 ⟨rfl, hm2⟩
         exact hK (.bool (eq x y)) _ (hI.next hR (by kernel_rfl) hm2 (PB.quiet hI.1 hm2 (HGs.out D 10 _ _ (hI.1).g hm2)) (upd_same V 10 _))
        ·intro D V zw1 a hR hI K hK
         obtain ⟨hM1, hB1, hG1⟩ := hI.1
         have zd10 := hR.pred 10 (by kernel_rfl)
         have zF10 : V 10 = .bool (eq x y) := hI.2 10 zd10 rfl
         have zf10 := zF10; clear zF10
         have ze48 := hR.frame.done (t := 48) (j := 10) (by kernel_rfl) hR.ok zd10
         rw [if_pos (by rfl)]
         go_simp
         exact hK (.bool (!eq x y)) _ (hI.next hR (by kernel_rfl) (Mod.refl _ _) (PB.quiet hI.1 (Mod.refl _ _) (HGs.out D 11 zw1 zw1 (hI.1).g (Mod.refl _ _))) (upd_same V 11 _))
       ·intro D V w2 hD hI
        obtain ⟨hM1, hB1, hG1⟩ := hI.1
        have hMx := hM1
        clear hM1
        have hBx := hB1
        clear hB1
        have hGx := hG1
        clear hG1
        have zF0 : V 0 = .func (.func F) #[] #[c1] := hI.2 0 (hD 0 (by decide)) rfl
        have zf0 := zF0; clear zF0
        have zF1 : V 1 = .slice (some ⟨g, (j + 1) * 6, none⟩) (n - (j + 1)) (cap - (j + 1)) := hI.2 1 (hD 1 (by decide)) rfl
        have zf1 := zF1; clear zF1
        have zF2 : V 2 = .int .i64 ((t : Int) + 1) := hI.2 2 (hD 2 (by decide)) rfl
        have zf2 := zF2; clear zF2
        have zF3 : V 3 = .pointer (some ⟨g, (j + 1) * 6 + (t + 1) * 6, none⟩) := hI.2 3 (hD 3 (by decide)) rfl
        have zf3 := zF3; clear zF3
        have zF4 : V 4 = .agg #[.int .i64 x.no, .int .i64 x.at_, .string ⟨x.rev.toArray⟩, .string ⟨x.item.toArray⟩, .bool x.sec, .slice x.A x.vals.length x.c] := hI.2 4 (hD 4 (by decide)) rfl
        have zf4 := zF4; clear zF4
        have zF5 : V 5 = .slice (some ⟨g, (j + 1) * 6, none⟩) (n - (j + 1)) (cap - (j + 1)) := hI.2 5 (hD 5 (by decide)) rfl
        have zf5 := zF5; clear zF5
        have zF6 : V 6 = .int .i64 ((t : Int) + 1) := hI.2 6 (hD 6 (by decide)) rfl
        have zf6 := zF6; clear zF6
        have zF7 : V 7 = .int .i64 (t : Int) := hI.2 7 (hD 7 (by decide)) rfl
        have zf7 := zF7; clear zF7
        have zF8 : V 8 = .pointer (some ⟨g, (j + 1) * 6 + t * 6, none⟩) := hI.2 8 (hD 8 (by decide)) rfl
        have zf8 := zF8; clear zF8
        have zF9 : V 9 = .agg #[.int .i64 y.no, .int .i64 y.at_, .string ⟨y.rev.toArray⟩, .string ⟨y.item.toArray⟩, .bool y.sec, .slice y.A y.vals.length y.c] := hI.2 9 (hD 9 (by decide)) rfl
        have zf9 := zF9; clear zF9
        have zF10 : V 10 = .bool (eq x y) := hI.2 10 (hD 10 (by decide)) rfl
        have zf10 := zF10; clear zF10
        have zF11 : V 11 = .bool (!eq x y) := hI.2 11 (hD 11 (by decide)) rfl
        have zf11 := zF11; clear zF11
        clear hI hD HGs
        simp only [frAll, Act.put, List.setIfInBounds_toArray, List.set_cons_zero, List.set_cons_succ, Nat.zero_add, Nat.reduceAdd, zf0, zf1, zf2, zf3, zf4, zf5, zf6, zf7, zf8, zf9, zf10, zf11]
        clear zf0 zf1 zf2 zf3 zf4 zf5 zf6 zf7 zf8 zf9 zf10 zf11
        clear V D
        have HM2 := Lib.hid (hm.trans (Mod.of_pure hMx))
        have HD2 := Lib.hid (HD1.out.pure hMx)
        replace HOW := Lib.hid (own_pure HOW.out hMx)
        clear hMx hGx hBx HC HD0 HD1 hm
        generalize hfl : compF eq (xs.take (j + 1 + t + 1)) = fl at *
        have HFL := Lib.hid hfl
        clear hfl
        have HYD2 : Hid (ys.drop (j + 1 + t + 1) = xs.drop (j + 1 + t + 1)) := by
         show ys.drop (j + 1 + t + 1) = xs.drop (j + 1 + t + 1)
         have := congrArg (List.drop 1) HYD.out
         rw [List.drop_drop, List.drop_drop] at this
         exact this
        cases he : eq x y
        ·have HE : Hid (compF eq (xs.take (j + 1 + (t + 1) + 1)) = fl ++ [x]) := Lib.hid (by
          have h := HST.out
          rw [he] at h
          exact h)
         clear he HST HYD hx hy hp0 hp1 hy0 hy1
         have hcx : c < ys.length := by rw [HYL.out]; omega
         have HSET := Lib.hid (decV_set ys c hcx x)
         obtain ⟨e0, f0⟩ := own_cellsD HOW.out hcx rfl
         obtain ⟨hs0, _⟩ := HOW.out.stored (c * 6) (.int .i64 x.no)
         obtain ⟨hs1, _⟩ := hs0.stored (c * 6 + 1) (.int .i64 x.at_)
         obtain ⟨hs2, _⟩ := hs1.stored (c * 6 + 2) (.string ⟨x.rev.toArray⟩)
         obtain ⟨hs3, _⟩ := hs2.stored (c * 6 + 3) (.string ⟨x.item.toArray⟩)
         obtain ⟨hs4, _⟩ := hs3.stored (c * 6 + 4) (.bool x.sec)
         obtain ⟨hs5, _⟩ := hs4.stored (c * 6 + 5) (.slice x.A x.vals.length x.c)
         rw [HSET.out] at hs5
         have HS5 := Lib.hid hs5
         have HM5 := Lib.hid ((((((HM2.out.setCell (p := ⟨g, c * 6, none⟩) (.inl rfl) (.int .i64 x.no)).setCell (p := ⟨g, c * 6 + 1, none⟩) (.inl rfl) (.int .i64 x.at_)).setCell (p := ⟨g, c * 6 + 2, none⟩) (.inl rfl) (.string ⟨x.rev.toArray⟩)).setCell (p := ⟨g, c * 6 + 3, none⟩) (.inl rfl) (.string ⟨x.item.toArray⟩)).setCell (p := ⟨g, c * 6 + 4, none⟩) (.inl rfl) (.bool x.sec)).setCell (p := ⟨g, c * 6 + 5, none⟩) (.inl rfl) (.slice x.A x.vals.length x.c))
         clear hs0 hs1 hs2 hs3 hs4 hs5 HSET HM2 HOW
         have HCX := Lib.hid hcx
         generalize ys[c] = z at *
         clear hcx
         obtain ⟨e0, e1, e2, e3, e4, e5⟩ := e0
         have ff0 := f0 (c * 6)
         have ff1 := f0 (c * 6 + 1)
         have ff2 := f0 (c * 6 + 2)
         have ff3 := f0 (c * 6 + 3)
         have ff4 := f0 (c * 6 + 4)
         have ff5 := f0 (c * 6 + 5)
         obtain ⟨p0, p1, p2, p3, p4, p5⟩ := HD2.out
         have k4 : (0 : Int) ≤ (c : Int) := by omega
         have k5 : (c : Int) < (n : Int) := by omega
         clear f0 HD2
         go_wp2_with fail
         go_roundg (n - (j + 1) - (t + 1 + 1))
         case measure => rw [HNX.out]; omega
         case rel =>
          refine ⟨c + 1, t + 1, ys.set c x, by rw [HNX.out], by rw [HNX.out]; omega, by simp, by simp, ?_, ?_, ?_, ?_, by omega, by rw [HNX.out]; exact HS5.out, HM5.out⟩
          ·rw [HE.out, List.length_append, ← HCL.out]; rfl
          ·rw [List.length_set, HYL.out, HNX.out]
          ·rw [HE.out, List.take_succ_eq_append_getElem (by rw [List.length_set]; exact HCX.out), List.take_set_of_le (Nat.le_refl _), HYT.out]
           simp
          ·rw [List.drop_set_of_lt (by omega)]
           exact HYD2.out
        ·have HE : Hid (compF eq (xs.take (j + 1 + (t + 1) + 1)) = fl) := Lib.hid (by
          have h := HST.out
          rw [he, if_pos rfl, List.append_nil] at h
          exact h)
         clear he HST HYD hx hy hp0 hp1 hy0 hy1
         go_wp2_with fail
         go_roundg (n - (j + 1) - (t + 1 + 1))
         case measure => rw [HNX.out]; omega
         case rel =>
          exact ⟨c, t + 1, ys, by rw [HNX.out], by rw [HNX.out]; omega, rfl, by simp, by rw [HE.out]; exact HCL.out, by rw [HYL.out, HNX.out], by rw [HE.out]; exact HYT.out, HYD2.out, by omega, by rw [HNX.out]; exact HOW.out, HM2.out⟩
      ·have e : xs.take (j + 1 + t + 1) = xs := List.take_of_length_le (by rw [HNX.out]; omega)
       rw [e] at HCL HYT
       generalize hfl : compF eq xs = fl at *
       have HFL := Lib.hid hfl
       clear hfl e HYD
       have hcn : c < n := by omega
       have hsz : (Value.agg #[.int .i64 0, .int .i64 0, .string ⟨#[]⟩, .string ⟨#[]⟩, .bool false, .slice none 0 0]).cells.size = 6 := rfl
       have hclr := fun ty => run_clear_K (P := Tryz.prog) wr 31 40 ty _ Tryz.underlying31 zero_decW (by intro u hu; simp [Value.cells] at hu; rcases hu with rfl | rfl | rfl | rfl | rfl <;> rfl) g (c * 6) (n - c) (cap - c) (by omega) (by rw [hsz]; omega)
        (fun q hq => by
         rw [hsz] at hq
         have hq2 : c * 6 + q < (decV ys).length := by rw [decV_len, HYL.out]; omega
         rw [HOW.out.cellAt (c * 6 + q) (by omega), List.getElem?_eq_getElem hq2]; rfl) (fun q hq => HOW.out.frozenAt _)
       obtain ⟨zs, hlz, htz, hownz, hmz⟩ := own_setCellsL (clrCells (.agg #[.int .i64 0, .int .i64 0, .string ⟨#[]⟩, .string ⟨#[]⟩, .bool false, .slice none 0 0]) (n - c)) (c * 6) wr (decV ys) HOW.out
       have own3 := own_shrinkL hownz (show c ≤ n by omega)
       have e2 : zs.take (c * 6) = decV fl := by rw [htz, decV_take, HYT.out]
       rw [e2] at own3
       have HO3 := Lib.hid own3
       have HM3 := Lib.hid (hm.trans hmz)
       clear e2 own3 hownz hmz htz hlz hsz hm
       have c1' : c ≤ n := by omega
       have c2' : c ≤ cap := by omega
       generalize wr.setCells g (c * 6) (clrCells (.agg #[.int .i64 0, .int .i64 0, .string ⟨#[]⟩, .string ⟨#[]⟩, .bool false, .slice none 0 0]) (n - c)) = w5 at *
       go_wp2_with fail
       go_ret
       exact ⟨by rw [← HCL.out]; rfl, by rw [← HCL.out]; exact HO3.out, HM3.out⟩
  ·have e : xs.take (j + 1) = xs := List.take_of_length_le (by rw [HNX.out]; omega)
   have HE := Lib.hid (show compF eq xs = xs by rw [← e]; exact HCJ.out)
   clear e
   go_wp2_with fail
   go_ret
   exact ⟨by rw [HE.out, HNX.out]; rfl, by rw [HE.out, HNX.out]; exact own_pure HOWN.out hm, Mod.of_pure hm⟩

end Go.Proofs.YtkkndblcejmmjaaGreatDoor
