/- Texts of the proof of SampleStrata, put together: Split, EqSS. -/
import Derived.Test.YtkchninlhemioaaGreatDoorSampleStrataZ10
import Derived.Test.YtkchninlhemioaaGreatDoorSampleStrataZ11
import Derived.Test.YtkchninlhemioaaGreatDoorSampleStrataZ22
import Derived.Deep.AppendLies
/- Split of package sample, SplitOf of the reference. -/
namespace Go.Proofs.YtkchninlhemioaaGreatDoor
set_option linter.unusedVariables false
set_option linter.unusedSimpArgs false
open Go.RowKit

/-- The part of an id. -/
def partF (seed : Str) (ws : List Int) (id : Str) : Nat := partL ws ((hashN (seed ++ 32 :: id) : Int) % sumI ws)
def rowsV (xss : List (List Str)) : List (List Value) := xss.map strsV
/-- v is a slice of slices of strings that reads as xss. -/
def SlSS (w : World) (v : Value) (xss : List (List Str)) : Prop :=
  ∃ us, Sl w 26 1 v us ∧ us.length = xss.length ∧ ∀ i, i < us.length → Sl w 9 1 (us.getD i nilS) (strsV (xss.getD i []))
theorem SlSS.pure {w w' : World} {v : Value} {xss : List (List Str)} (h : SlSS w v xss) (hm : Pure w w') : SlSS w' v xss := by
  obtain ⟨us, h1, h2, h3⟩ := h
  exact ⟨us, h1.pure hm, h2, fun i hi => (h3 i hi).pure hm⟩
theorem rowsV_getD (xss : List (List Str)) (i : Nat) : (rowsV xss).getD i [] = strsV (xss.getD i []) := by
  simp only [rowsV, List.getD, List.getElem?_map]
  cases xss[i]? <;> rfl
theorem Tab.slss {w : World} {base g n : Nat} {us : List Value} {xss : List (List Str)} (h : Tab w base 9 us (rowsV xss)) (hb : Blk w g 26 us.toArray) (hn : xss.length = n) (hl : n ≤ 1000000) : SlSS w (.slice (some ⟨g, 0, none⟩) n n) xss := by
  have hl2 : us.length = xss.length := by have := h.len; simpa [rowsV] using this
  refine ⟨us, ⟨_, _, _, rfl, Nat.le_refl _, by omega, by omega, fun _ => ⟨g, 0, rfl, hb.row0⟩⟩, hl2, fun i hi => ?_⟩
  have := Sl.of_own (h.own i hi)
  rw [rowsV_getD] at this
  exact this
def SSPost (w : World) (xss : List (List Str)) (e : Ending) (w' : World) : Prop := ∃ v, e = .returned v ∧ SlSS w' v xss ∧ Pure w w'
theorem info_strs_ : (Tryz.prog.info? 26).map (fun i => (i.zero, i.size, i.bytes)) = some (some (.slice none 0 0), 1, 24) := by kernel_rfl
theorem info_st_ : (Tryz.prog.info? 9).map (fun i => (i.zero, i.size, i.bytes)) = some (some (.string ⟨#[]⟩), 1, 16) := by kernel_rfl
def nilRows (n : Nat) : Array Value := (List.replicate n nilS).toArray
/-- The table at block g, its rows behind it. -/
def TabAt (w : World) (g : Nat) (xss : List (List Str)) : Prop := ∃ us, Blk w g 26 us.toArray ∧ Tab w (g + 1) 9 us (rowsV xss)
def SumRel3 (w : World) (ws : List Int) (gk : Nat) (s i : Value) (wr : World) : Prop :=
  ∃ k : Nat, ws.length - k = gk ∧ k ≤ ws.length ∧ i = .int .i64 (k : Int) ∧ s = .int .i64 (sumI (ws.take k)) ∧ w = wr
def RowsRel (W : World) (f : Str → Nat) (n : Nat) (ids : List Str) (g gk : Nat) (i : Value) (wr : World) : Prop :=
  ∃ k : Nat, ids.length - k = gk ∧ k ≤ ids.length ∧ i = .int .i64 (k : Int) ∧ TabAt wr g (rowsTo f n (ids.take k)) ∧ Mod (fun j => g ≤ j) W wr
def FindRel (W : World) (ws : List Int) (h : Int) (gk : Nat) (r i : Value) (wr : World) : Prop :=
  ∃ (k : Nat) (x : Int), ws.length - k = gk ∧ i = .int .i64 (k : Int) ∧ r = .int .i64 x ∧ partAt ws h k x ∧ W = wr
theorem tab_put {w w' : World} {g k n' N : Nat} {us : List Value} {xss : List (List Str)} {v' : Value} {id : Str} (hb : Blk w g 26 us.toArray) (ht : Tab w (g + 1) 9 us (rowsV xss)) (hk : k < us.length)
    (hg : w.grownBy w' (us.getD k nilS).ownBlock) (hown : w'.ownsRow (g + 1) 9 1 v' n' (strsV (xss.getD k []) ++ [.string ⟨id.toArray⟩]))
    (hat : v'.ownBlock = (us.getD k nilS).ownBlock ∨ v'.ownBlock = some N) (hN : w.heap.size ≤ N) : TabAt (w'.setCell ⟨g, k, none⟩ v') g (xss.set k (xss.getD k [] ++ [id])) := by
  have hl2 : us.length = xss.length := by have := ht.len; simpa [rowsV] using this
  have hg1 : ∀ b, (us.getD k nilS).ownBlock = some b → g + 1 ≤ b := fun b h => own_block (ht.own k hk) b h
  refine ⟨us.set k v', ?_, ?_⟩
  · have h1 : Blk w' g 26 us.toArray := (hg.block g hb.lt (fun h => by have := hg1 g h.symm; omega)).trans hb
    have h2 := h1.set k v'
    simpa using h2
  · have h3 := ht.grow hk hg hown hat hN
    have e : (rowsV xss).set k (strsV (xss.getD k []) ++ [.string ⟨id.toArray⟩]) = rowsV (xss.set k (xss.getD k [] ++ [id])) := by
      simp [rowsV, List.map_set, strsV]
    rw [e] at h3
    exact h3.mod (S := fun j => j = g) (Mod.setCell (S := fun j => j = g) (p := ⟨g, k, none⟩) (Mod.refl _ _) (.inl rfl) _) (fun j hj h => by omega)

theorem TabAt.mod {w w' : World} {S : Nat → Prop} {g : Nat} {xss : List (List Str)} (h : TabAt w g xss) (hm : Mod S w w') (hs : ∀ j, g ≤ j → ¬ S j) : TabAt w' g xss := by
  obtain ⟨us, hb, ht⟩ := h
  exact ⟨us, hb.mod hm (hs g (Nat.le_refl _)), ht.mod hm (fun j hj => hs j (by omega))⟩
theorem rows_row_len (f : Str → Nat) (n : Nat) (ids : List Str) : ∀ k, k ≤ ids.length → ∀ i, ((rowsTo f n (ids.take k)).getD i []).length ≤ k := by
  intro k
  induction k with
  | zero =>
    intro _ i
    simp only [List.take_zero, rowsTo, List.foldl_nil, List.getD]
    rw [List.getElem?_replicate]
    split <;> simp
  | succ k ih =>
    intro hk i
    have h1 := ih (by omega) i
    rw [List.take_succ_eq_append_getElem (by omega), rowsTo_snoc]
    unfold rowStep
    by_cases hl : f ids[k] < (rowsTo f n (ids.take k)).length
    · rw [getD_set _ _ _ _ _ hl]
      split
      · have h2 := ih (by omega) (f ids[k])
        rw [List.length_append, List.length_singleton]
        omega
      · omega
    · rw [List.set_eq_of_length_le (by omega)]
      omega
theorem cell_of_tab {us : List Value} {k : Nat} (hk : k < us.length) : us.toArray[k]? = some (us.getD k nilS) := by simp [List.getD, hk]

end Go.Proofs.YtkchninlhemioaaGreatDoor

/- slices.Equal over strings, slices.EqualFunc over lists of them: the same lists. -/
namespace Go.Proofs.YtkchninlhemioaaGreatDoor
set_option linter.unusedVariables false
set_option linter.unusedSimpArgs false
open Go.RowKit

set_option maxRecDepth 100000 in
set_option maxHeartbeats 2000000 in
theorem equalStrs_calls (w : World) (v1 v2 : Value) (xs : List Str) (h1 : Sl w 9 1 v1 (strsV xs)) (h2 : Sl w 9 1 v2 (strsV xs)) : Calls Tryz.prog 16 #[v1, v2] w (BoolPost w true) := by
  obtain ⟨A1, n1, c1, rfl, a1, a2, a3, a4⟩ := h1
  obtain ⟨A2, n2, c2, rfl, b1, b2, b3, b4⟩ := h2
  have hn1 : xs.length = n1 := by simpa [strsV] using a3
  have hn2 : xs.length = n2 := by simpa [strsV] using b3
  subst hn1
  subst hn2
  have HA := Lib.hid a4
  have HB := Lib.hid b4
  have hne : ((xs.length : Int) != (xs.length : Int)) = false := by simp
  clear a3 b3 a4 b4
  go_enter Tryz.func16, Tryz.ntmps16
  go_wp2_with fail
  go_loopg [13] xs.length (fun gk i wr => ∃ k : Nat, xs.length - k = gk ∧ k ≤ xs.length ∧ i = .int .i64 (k : Int) ∧ Pure w wr)
  case atStart => exact ⟨0, by omega, by omega, rfl, Mod.refl _ _⟩
  case round =>
    obtain ⟨k, rfl, hk, rfl, hm⟩ := hrel
    by_cases hlt : k < xs.length
    · obtain ⟨g1, o1, rfl, r1⟩ := HA.out (by omega)
      obtain ⟨g2, o2, rfl, r2⟩ := HB.out (by omega)
      have q1 := (r1.mod hm id).cell (strsV_get xs k hlt)
      have q2 := (r2.mod hm id).cell (strsV_get xs k hlt)
      have t1 : (xs[k] != xs[k]) = false := by simp
      have i1 : (0 : Int) ≤ (k : Int) := by omega
      have i2 : (k : Int) < (xs.length : Int) := by omega
      clear r1 r2
      generalize xs[k] = x at *
      go_wp2_with fail
      go_quiet (fail)
      go_wp2_with fail
      go_roundg (xs.length - (k + 1))
      case measure => omega
      case rel => exact ⟨k + 1, rfl, by omega, by simp, hm.drewN _⟩
    · have hke : k = xs.length := by omega
      subst hke
      go_wp2_with fail
      go_ret
      exact BoolPost.of rfl hm

theorem SlSS.at {w : World} {A : Option Addr} {n c : Nat} {xss : List (List Str)} (h : SlSS w (.slice A n c) xss) {k : Nat} (hk : k < xss.length) :
    ∃ g off B m d, A = some ⟨g, off, none⟩ ∧ w.cell? ⟨g, off + k, none⟩ = some (.slice B m d) ∧ Sl w 9 1 (.slice B m d) (strsV (xss.getD k [])) := by
  obtain ⟨us, h1, h2, h3⟩ := h
  have hs := h3 k (by omega)
  obtain ⟨B, m, d, hu⟩ := hs.form
  obtain ⟨A', n', c', hf, _, _, hl, hr⟩ := h1
  injection hf with e1 e2 e3
  subst e1 e2 e3
  obtain ⟨g, off, rfl, hrow⟩ := hr (by omega)
  refine ⟨g, off, B, m, d, rfl, ?_, by rw [← hu]; exact hs⟩
  have := hrow.cell (i := k) (u := us.getD k nilS) (by simp [List.getD, show k < us.length by omega])
  rw [this, hu]
theorem SlSS.lens {w : World} {A : Option Addr} {n c : Nat} {xss : List (List Str)} (h : SlSS w (.slice A n c) xss) : xss.length = n ∧ n ≤ 9223372036854775807 := by
  obtain ⟨us, ⟨A', n', c', hf, h4, h5, h6, _⟩, h2, h3⟩ := h
  injection hf with e1 e2 e3
  omega
theorem SlSS.form {w : World} {v : Value} {xss : List (List Str)} (h : SlSS w v xss) : ∃ A n c, v = .slice A n c := by
  obtain ⟨us, ⟨A', n', c', hf, _⟩, _⟩ := h
  exact ⟨A', n', c', hf⟩

set_option maxRecDepth 100000 in
set_option maxHeartbeats 2000000 in
theorem equalSS_calls (w : World) (v1 v2 : Value) (xss : List (List Str)) (h1 : SlSS w v1 xss) (h2 : SlSS w v2 xss) :
    Calls Tryz.prog 24 #[v1, v2, .func (.func 16) #[] #[]] w (BoolPost w true) := by
  obtain ⟨A1, n1, c1, rfl⟩ := h1.form
  obtain ⟨A2, n2, c2, rfl⟩ := h2.form
  obtain ⟨hn1, hb1⟩ := h1.lens
  obtain ⟨hn2, hb2⟩ := h2.lens
  subst hn1
  subst hn2
  have H1 := Lib.hid h1
  have H2 := Lib.hid h2
  have hne : ((xss.length : Int) != (xss.length : Int)) = false := by simp
  have hcf : ∀ (x y : Value) (W : World), Sem.run Tryz.prog (callFunc 16 #[x, y]) W = .ok (.enter 16 #[x, y]) W := fun _ _ _ => rfl
  clear h1 h2
  go_enter Tryz.func24, Tryz.ntmps24
  go_wp2_with fail
  go_loopg [17] xss.length (fun gk i wr => ∃ k : Nat, xss.length - k = gk ∧ k ≤ xss.length ∧ i = .int .i64 (k : Int) ∧ Pure w wr)
  case atStart => exact ⟨0, by omega, by omega, rfl, Mod.refl _ _⟩
  case round =>
    obtain ⟨k, rfl, hk, rfl, hm⟩ := hrel
    by_cases hlt : k < xss.length
    · obtain ⟨g1, o1, B1, m1, d1, rfl, q1, s1⟩ := (H1.out.pure hm).at hlt
      obtain ⟨g2, o2, B2, m2, d2, rfl, q2, s2⟩ := (H2.out.pure hm).at hlt
      have HS := Lib.hid (equalStrs_calls wr _ _ _ s1 s2)
      have i1 : (0 : Int) ≤ (k : Int) := by omega
      have i2 : (k : Int) < (xss.length : Int) := by omega
      clear s1 s2
      go_wp2_with fail
      refine HS.out.mono ?_
      rintro e w1 ⟨rfl, hm1⟩
      go_wp2_with fail
      go_roundg (xss.length - (k + 1))
      case measure => omega
      case rel => exact ⟨k + 1, rfl, by omega, by simp, hm.trans hm1⟩
    · have hke : k = xss.length := by omega
      subst hke
      go_wp2_with fail
      go_ret
      exact BoolPost.of rfl hm

end Go.Proofs.YtkchninlhemioaaGreatDoor
