/- Texts of the proof of SampleStrata, put together: Picks, Gen, Strs, LeastP, Seed. -/
import Derived.Test.YtkchninlhemioaaGreatDoorSampleStrataZ7
import Derived.Deep.RegionHeld3
namespace Go.Proofs.YtkchninlhemioaaGreatDoor
set_option linter.unusedVariables false
set_option linter.unusedSimpArgs false
open Go.RowKit

def RangePost (w : World) (b N : Nat) (lo hi : Int) (e : Ending) (w' : World) : Prop :=
  ∃ k : Int, lo ≤ k ∧ k ≤ hi ∧ e = .returned (.int .i64 k) ∧ Strm w' b (N + 1) ∧ Mod (· = b) w w'

set_option maxHeartbeats 400000 in
theorem range_calls (w : World) (b N : Nat) (lo hi : Int) (hS : Strm w b N) (hN : N ≤ 1000000000) (h1 : lo ≤ hi) (h2 : -4611686018427387904 ≤ lo) (h3 : hi ≤ 4611686018427387900) :
    Calls Tryz.prog 6 #[.pointer (some ⟨b, 0, none⟩), .int .i64 lo, .int .i64 hi] w (RangePost w b N lo hi) := by
  go_enter Tryz.func6, Tryz.ntmps6
  go_wp2_with fail
  refine (next_calls _ b N _ hS hN (by omega) (by omega)).mono ?_
  rintro e w' ⟨k, hk0, hk1, rfl, hS', hM⟩
  go_wp2_with fail
  go_ret
  exact ⟨_, by omega, by omega, rfl, hS', hM⟩

def FlipPost (w : World) (b N : Nat) (e : Ending) (w' : World) : Prop :=
  ∃ k : Bool, e = .returned (.bool k) ∧ Strm w' b (N + 1) ∧ Mod (· = b) w w'

set_option maxHeartbeats 400000 in
theorem flip_calls (w : World) (b N : Nat) (n : Int) (hS : Strm w b N) (hN : N ≤ 1000000000) (hn : 1 ≤ n) (hn2 : n ≤ 9223372036854775807) :
    Calls Tryz.prog 20 #[.pointer (some ⟨b, 0, none⟩), .int .i64 n] w (FlipPost w b N) := by
  go_enter Tryz.func20, Tryz.ntmps20
  go_wp2_with fail
  refine (next_calls _ b N _ hS hN hn hn2).mono ?_
  rintro e w' ⟨k, hk0, hk1, rfl, hS', hM⟩
  go_wp2_with fail
  go_ret
  exact ⟨_, rfl, hS', hM⟩

def PickPost (w : World) (b N : Nat) (xs : List Int) (e : Ending) (w' : World) : Prop :=
  ∃ k : Int, k ∈ xs ∧ e = .returned (.int .i64 k) ∧ Strm w' b (N + 1) ∧ Mod (· = b) w w'

def ints (xs : List Int) : List Value := xs.map (Value.int .i64)

set_option maxHeartbeats 400000 in
theorem pick_calls (w : World) (b N g c : Nat) (xs : List Int) (hS : Strm w b N) (hN : N ≤ 1000000000) (hx : Blk w g 3 (ints xs).toArray) (hgb : g ≠ b) (h0 : 0 < xs.length) (hl : xs.length ≤ 1000) :
    Calls Tryz.prog 8 #[.pointer (some ⟨b, 0, none⟩), .slice (some ⟨g, 0, none⟩) xs.length c] w (PickPost w b N xs) := by
  go_enter Tryz.func8, Tryz.ntmps8
  go_wp2_with fail
  refine (next_calls _ b N _ hS hN (by omega) (by omega)).mono ?_
  rintro e w' ⟨k, hk0, hk1, rfl, hS', hM⟩
  obtain ⟨i, rfl⟩ := Int.eq_ofNat_of_zero_le hk0
  have hi : i < xs.length := by omega
  have hc := (hx.mod hM hgb).cell i
  have hc2 : (ints xs).toArray[i]? = some (.int .i64 xs[i]) := by simp [ints, hi]
  rw [hc2] at hc
  have hm : xs[i] ∈ xs := List.getElem_mem hi
  generalize xs[i] = z at hc hm
  clear hc2
  go_wp2_with fail
  go_ret
  exact ⟨_, hm, rfl, hS', hM⟩

def OddPost (w : World) (b N : Nat) (e : Ending) (w' : World) : Prop :=
  ∃ k : Int, -1099511627776 ≤ k ∧ k ≤ 1099511627776 ∧ e = .returned (.int .i64 k) ∧ Strm w' b (N + 2) ∧ Mod (· = b) w w'

def fracs (xs : List (Int × Int)) : List Value := xs.flatMap fun p => [.int .i64 p.1, .int .i64 p.2]
theorem fracs_get : ∀ (xs : List (Int × Int)) (i : Nat) (h : i < xs.length), (fracs xs)[i * 2]? = some (.int .i64 xs[i].1) ∧ (fracs xs)[i * 2 + 1]? = some (.int .i64 xs[i].2)
  | x :: xs, 0, _ => by simp [fracs]
  | x :: xs, i + 1, h => by
    have := fracs_get xs i (by simpa using h)
    have e : (i + 1) * 2 = i * 2 + 1 + 1 := by omega
    simp only [fracs, List.flatMap_cons, List.cons_append, List.nil_append, e, List.getElem?_cons_succ, List.getElem_cons_succ]
    exact this

theorem Blk.frac_at {w : World} {g : Nat} {t : TypeId} (xs : List (Int × Int)) (h : Blk w g t (fracs xs).toArray) {i : Nat} (hi : i < xs.length) :
    ∃ n d, (n, d) ∈ xs ∧ w.cell? ⟨g, i * 2, none⟩ = some (.int .i64 n) ∧ w.cell? ⟨g, i * 2 + 1, none⟩ = some (.int .i64 d) := by
  have := fracs_get xs i hi
  exact ⟨_, _, List.getElem_mem hi, by rw [h.cell]; simpa using this.1, by rw [h.cell]; simpa using this.2⟩

def FracPost (w : World) (b N : Nat) (P : Int → Int → Prop) (e : Ending) (w' : World) : Prop :=
  ∃ n d : Int, P n d ∧ e = .returned (.agg #[.int .i64 n, .int .i64 d]) ∧ Strm w' b N ∧ Mod (· = b) w w'

end Go.Proofs.YtkchninlhemioaaGreatDoor

/- Helpers that serve at any world: chains of facts over new blocks, draws, stores and calls. -/
namespace Go.Proofs.YtkchninlhemioaaGreatDoor
set_option linter.unusedVariables false
set_option linter.unusedSimpArgs false
open Go.RowKit

section
variable {w w' : World} {g b i N : Nat} {t : TypeId} {cs : Array Value} {v : Value} {p : Addr} {S : Nat → Prop} {P : Prop}
theorem Blk.new' {k : Nat} (h : k = w.heap.size) : Blk (w.alloc (.cells cs t)) k t cs := by subst h; exact Blk.new _ _ _
theorem Blk.snd (w : World) (o : Obj) (t : TypeId) (cs : Array Value) : Blk ((w.alloc o).alloc (.cells cs t)) (w.heap.size + 1) t cs := by
  have := Blk.new (w.alloc o) t cs
  rw [World.size_alloc] at this
  exact this
theorem Blk.thd (w : World) (o o' : Obj) (t : TypeId) (cs : Array Value) : Blk (((w.alloc o).alloc o').alloc (.cells cs t)) (w.heap.size + 1 + 1) t cs := by
  have := Blk.new ((w.alloc o).alloc o') t cs
  rw [World.size_alloc, World.size_alloc] at this
  exact this
theorem Blk.modb (h : Blk w g t cs) (hb : Mod (· = b) w w') (hg : g ≠ b) : Blk w' g t cs := h.mod hb hg
theorem Blk.modp (h : Blk w g t cs) (hb : Pure w w') : Blk w' g t cs := h.mod hb id
theorem Blk.useb (h : Blk w g t cs) (hb : Mod (· = b) w w') (hg : g ≠ b) (k : Blk w' g t cs → P) : P := k (h.mod hb hg)
theorem Blk.usep (h : Blk w g t cs) (hb : Pure w w') (k : Blk w' g t cs → P) : P := k (h.mod hb id)
theorem Blk.set2 {a b x y : Value} (h : Blk w g t #[a, b]) : Blk ((w.setCell ⟨g, 0, none⟩ x).setCell ⟨g, 1, none⟩ y) g t #[x, y] := by
  have := (h.set 0 x).set 1 y
  simpa using this
theorem Blk.set3 {a b c x y z : Value} (h : Blk w g t #[a, b, c]) : Blk (((w.setCell ⟨g, 0, none⟩ x).setCell ⟨g, 1, none⟩ y).setCell ⟨g, 2, none⟩ z) g t #[x, y, z] := by
  have := ((h.set 0 x).set 1 y).set 2 z
  simpa using this
theorem Blk.set4 {a b c d x y z u : Value} (h : Blk w g t #[a, b, c, d]) : Blk ((((w.setCell ⟨g, 0, none⟩ x).setCell ⟨g, 1, none⟩ y).setCell ⟨g, 2, none⟩ z).setCell ⟨g, 3, none⟩ u) g t #[x, y, z, u] := by
  have := (((h.set 0 x).set 1 y).set 2 z).set 3 u
  simpa using this
theorem cell_alloc (h : w.cell? p = some v) (o : Obj) : (w.alloc o).cell? p = some v := (World.cell?_alloc_lt w _ _ (lt_of_cell h)).trans h
theorem cell_drew (h : w.cell? p = some v) : w.drew.cell? p = some v := h
theorem cell_drewN (h : w.cell? p = some v) (n : Nat) : (w.drewN n).cell? p = some v := h
theorem cell_far {q : Addr} {u : Value} (h : w.cell? p = some v) (hq : q.block ≠ p.block) : (w.setCell q u).cell? p = some v := (World.cell?_setCell_far w q p u hq).trans h
theorem q_farc {q j : Nat} {u : Value} (hq : q ≠ g) (h : w.cell? ⟨g, i, none⟩ = some v) : (w.setCell ⟨q, j, none⟩ u).cell? ⟨g, i, none⟩ = some v := cell_far h hq
theorem keepb (h : w.cell? ⟨g, i, none⟩ = some v) (hm : Mod (· = b) w w') (hs : g ≠ b) : w'.cell? ⟨g, i, none⟩ = some v := hm.keep h hs
theorem keepp (h : w.cell? p = some v) (hm : Pure w w') : w'.cell? p = some v := hm.keep h id
theorem Mod.transp {a c d : World} (h : Mod S a c) (k : Pure c d) : Mod S a d := h.trans (Mod.of_pure k)
theorem Strm.modb (h : Strm w b N) (hm : Pure w w') : Strm w' b N := h.pure hm
end

section
variable {w w' : World} {g b i N : Nat} {t : TypeId} {cs : Array Value} {v : Value} {p : Addr} {S : Nat → Prop} {P : Prop}
theorem Blk.q_modb (hb : Mod (· = b) w w') (hg : g ≠ b) (h : Blk w g t cs) : Blk w' g t cs := h.mod hb hg
theorem Blk.q_modp (hb : Pure w w') (h : Blk w g t cs) : Blk w' g t cs := h.mod hb id
theorem Blk.q_far (hp : g ≠ p.block) (h : Blk w g t cs) (u : Value) : Blk (w.setCell p u) g t cs := h.far hp u
theorem q_far {q : Addr} {u : Value} (hq : q.block ≠ p.block) (h : w.cell? p = some v) : (w.setCell q u).cell? p = some v := cell_far h hq
theorem q_keepb (hm : Mod (· = b) w w') (hs : g ≠ b) (h : w.cell? ⟨g, i, none⟩ = some v) : w'.cell? ⟨g, i, none⟩ = some v := hm.keep h hs
theorem q_keepp (hm : Pure w w') (h : w.cell? p = some v) : w'.cell? p = some v := hm.keep h id
theorem Mod.q_trans {a c d : World} (k : Mod S c d) (h : Mod S a c) : Mod S a d := h.trans k
theorem Mod.q_transp {a c d : World} (k : Pure c d) (h : Mod S a c) : Mod S a d := h.trans (Mod.of_pure k)
theorem Mod.q_set {a w : World} {p : Addr} (hp : a.heap.size ≤ p.block) (h : Mod S a w) (u : Value) : Mod S a (w.setCell p u) := h.setCell (.inr hp) u
theorem Strm.q_pure (hm : Pure w w') (h : Strm w b N) : Strm w' b N := h.pure hm
theorem Strm.q_set (hp : b < p.block) (h : Strm w b N) (u : Value) : Strm (w.setCell p u) b N := h.setCell hp u
end

/-- A store into a block of another element type. -/
theorem Sl.set_ne {w : World} {e t : TypeId} {size g j : Nat} {v : Value} {xs : List Value} {cs : Array Value} (h : Sl w e size v xs) (hb : Blk w g t cs) (hne : e ≠ t) (u : Value) : Sl (w.setCell ⟨g, j, none⟩ u) e size v xs := by
  refine h.mod (S := fun i => i = g) (Mod.setCell (S := fun i => i = g) (p := ⟨g, j, none⟩) (Mod.refl _ _) (.inl rfl) u) (fun g' arr fr hh hg => ?_)
  subst hg
  unfold Blk at hb
  rw [hh] at hb
  injection hb with hb
  injection hb with _ ht
  exact hne ht
/-- The numbers of a list of cells. -/
def intsOf (cs : Array Value) : List Int := cs.toList.map intOf
def PickV (w : World) (b N : Nat) (cs : Array Value) (e : Ending) (w' : World) : Prop :=
  ∃ k : Int, k ∈ intsOf cs ∧ e = .returned (.int .i64 k) ∧ Strm w' b (N + 1) ∧ Mod (· = b) w w'
theorem pickv_calls (w : World) (b N g c n : Nat) (cs : Array Value) (hS : Strm w b N) (hx : Blk w g 3 cs) (hN : N ≤ 1000000000) (hgb : g ≠ b) (hn : n = (intsOf cs).length) (h0 : 0 < n) (hl : n ≤ 1000) (hi : cs = (ints (intsOf cs)).toArray) :
    Calls Tryz.prog 8 #[.pointer (some ⟨b, 0, none⟩), .slice (some ⟨g, 0, none⟩) n c] w (PickV w b N cs) := by
  subst hn
  rw [hi] at hx
  exact pick_calls w b N g c (intsOf cs) hS hN hx hgb h0 hl

end Go.Proofs.YtkchninlhemioaaGreatDoor

/- The generators of strings: some10, Seed. -/
namespace Go.Proofs.YtkchninlhemioaaGreatDoor
set_option linter.unusedVariables false
set_option linter.unusedSimpArgs false
open Go.RowKit

/-- A string's bytes. -/
abbrev Str := List UInt8
def strsV (ss : List Str) : List Value := ss.map fun l => Value.string ⟨l.toArray⟩
theorem strsV_len (ss : List Str) : (strsV ss).length = ss.length := by simp [strsV]
theorem strsV_get (ss : List Str) (i : Nat) (h : i < ss.length) : (strsV ss)[i]? = some (.string ⟨ss[i].toArray⟩) := by simp [strsV, h]
theorem strsV_one (ss : List Str) : ∀ u ∈ strsV ss, u.oneCell' = true := by
  intro u hu
  simp [strsV] at hu
  obtain ⟨z, _, rfl⟩ := hu
  rfl
def SomePost (w : World) (b N : Nat) (ss : List Str) (e : Ending) (w' : World) : Prop :=
  ∃ s, s ∈ ss ∧ e = .returned (.string ⟨s.toArray⟩) ∧ Strm w' b (N + 1) ∧ Mod (· = b) w w'

set_option maxRecDepth 100000 in
set_option maxHeartbeats 400000 in
theorem some_calls (w : World) (b N g c : Nat) (ss : List Str) (hS : Strm w b N) (hN : N ≤ 1000000000) (hx : Blk w g 9 (strsV ss).toArray) (hgb : g ≠ b) (h0 : 0 < ss.length) (hl : ss.length ≤ 1000) :
    Calls Tryz.prog 30 #[.pointer (some ⟨b, 0, none⟩), .slice (some ⟨g, 0, none⟩) ss.length c] w (SomePost w b N ss) := by
  go_enter Tryz.func30, Tryz.ntmps30
  go_wp2_with fail
  refine (next_calls _ b N _ hS hN (by omega) (by omega)).mono ?_
  rintro e w' ⟨k, hk0, hk1, rfl, hS', hM⟩
  obtain ⟨i, rfl⟩ := Int.eq_ofNat_of_zero_le hk0
  have hi : i < ss.length := by omega
  have hc := (hx.mod hM hgb).cell i
  have hc2 : (strsV ss).toArray[i]? = some (.string ⟨ss[i].toArray⟩) := by simp [strsV, hi]
  rw [hc2] at hc
  have hm : ss[i] ∈ ss := List.getElem_mem hi
  generalize ss[i] = z at hc hm
  clear hc2
  go_wp2_with fail
  go_ret
  exact ⟨_, hm, rfl, hS', hM⟩

end Go.Proofs.YtkchninlhemioaaGreatDoor

/- Least: the plain facts on the least elements of a list. -/
namespace Go.Proofs.YtkchninlhemioaaGreatDoor
set_option linter.unusedVariables false
set_option linter.unusedSimpArgs false

section
variable {α : Type} [DecidableEq α]
theorem subset_len : ∀ (A B : List α), A.Nodup → (∀ x ∈ A, x ∈ B) → A.length ≤ B.length
  | [], B, _, _ => by simp
  | x :: A, B, hn, hs => by
    have hx := hs x (by simp)
    rw [List.nodup_cons] at hn
    have h1 := subset_len A (B.erase x) hn.2 (fun y hy => (List.mem_erase_of_ne (by rintro rfl; exact hn.1 hy)).2 (hs y (by simp [hy])))
    rw [List.length_erase_of_mem hx] at h1
    have : 0 < B.length := List.length_pos_of_mem hx
    simp only [List.length_cons]
    omega
theorem subset_back {A B : List α} (hn : A.Nodup) (hs : ∀ x ∈ A, x ∈ B) (hl : B.length ≤ A.length) : ∀ x ∈ B, x ∈ A := by
  intro b hb
  refine Decidable.byContradiction fun hna => ?_
  have h1 := subset_len A (B.erase b) hn (fun y hy => (List.mem_erase_of_ne (by rintro rfl; exact hna hy)).2 (hs y hy))
  rw [List.length_erase_of_mem hb] at h1
  have : 0 < B.length := List.length_pos_of_mem hb
  omega
/-- A has the least of the list l. -/
def Down (lt : α → α → Prop) (l A : List α) : Prop := ∀ a ∈ A, ∀ z ∈ l, z ∉ A → lt a z
theorem down_unique {lt : α → α → Prop} {l A B : List α} (has : ∀ x y, lt x y → ¬ lt y x) (hA : A.Nodup) (hB : B.Nodup) (sA : ∀ x ∈ A, x ∈ l) (sB : ∀ x ∈ B, x ∈ l) (hl : A.length = B.length) (dA : Down lt l A) (dB : Down lt l B) :
    ∀ x ∈ A, x ∈ B := by
  intro x hx
  refine Decidable.byContradiction fun hxB => ?_
  have h1 : ¬ ∀ y ∈ B, y ∈ A := fun h => hxB (subset_back hB h (by omega) x hx)
  apply h1
  intro y hy
  refine Decidable.byContradiction fun hyA => ?_
  exact has x y (dA x hx y (sB y hy) hyA) (dB y hy x (sA x hx) hxB)
theorem sorted_unique {lt : α → α → Prop} (has : ∀ x y, lt x y → ¬ lt y x) : ∀ (A B : List α), A.Pairwise lt → B.Pairwise lt → (∀ x ∈ A, x ∈ B) → (∀ x ∈ B, x ∈ A) → A = B
  | [], [], _, _, _, _ => rfl
  | [], b :: B, _, _, _, h => absurd (h b (by simp)) (by simp)
  | a :: A, [], _, _, h, _ => absurd (h a (by simp)) (by simp)
  | a :: A, b :: B, pA, pB, h1, h2 => by
    rw [List.pairwise_cons] at pA pB
    have e : a = b := by
      refine Decidable.byContradiction fun hne => ?_
      have ha : a ∈ B := by
        rcases List.mem_cons.1 (h1 a (by simp)) with h | h
        · exact absurd h hne
        · exact h
      have hb : b ∈ A := by
        rcases List.mem_cons.1 (h2 b (by simp)) with h | h
        · exact absurd h.symm hne
        · exact h
      exact has a b (pA.1 b hb) (pB.1 a ha)
    subst e
    have irr : ∀ x, ¬ lt x x := fun x h => has x x h h
    rw [sorted_unique has A B pA.2 pB.2 (fun x hx => by
        rcases List.mem_cons.1 (h1 x (by simp [hx])) with h | h
        · subst h
          exact absurd (pA.1 _ hx) (irr _)
        · exact h) (fun x hx => by
        rcases List.mem_cons.1 (h2 x (by simp [hx])) with h | h
        · subst h
          exact absurd (pB.1 _ hx) (irr _)
        · exact h)]
end

/-- By hash, then by name. -/
def ltH (h : Str → Nat) (a b : Str) : Prop := h a < h b ∨ (h a = h b ∧ a < b)
theorem str_irrefl (a : Str) : ¬ a < a := List.lt_irrefl a
theorem str_asymm {a b : Str} (h : a < b) : ¬ b < a := List.lt_asymm h
theorem str_total {a b : Str} (h : ¬ a < b) (h2 : ¬ b < a) : a = b := List.le_antisymm (by simpa using h2) (by simpa using h)
theorem ltH_asymm (h : Str → Nat) (a b : Str) : ltH h a b → ¬ ltH h b a := by
  rintro (h1 | ⟨h1, h2⟩) (h3 | ⟨h3, h4⟩)
  · omega
  · omega
  · omega
  · exact str_asymm h2 h4
/-- out are the many least of ids, in order. -/
def LeastSpec (h : Str → Nat) (ids : List Str) (many : Nat) (out : List Str) : Prop :=
  out.Pairwise (· < ·) ∧ (∀ x ∈ out, x ∈ ids) ∧ Down (ltH h) ids out ∧ out.length = min many ids.length
theorem nodup_of_lt {l : List Str} (h : l.Pairwise (· < ·)) : l.Nodup := by
  refine List.Pairwise.imp ?_ h
  intro a b hab e
  subst e
  exact str_irrefl _ hab
theorem LeastSpec.unique {h : Str → Nat} {ids : List Str} {many : Nat} {a b : List Str} (ha : LeastSpec h ids many a) (hb : LeastSpec h ids many b) : a = b := by
  obtain ⟨a1, a2, a3, a4⟩ := ha
  obtain ⟨b1, b2, b3, b4⟩ := hb
  have hab := down_unique (ltH_asymm h) (nodup_of_lt a1) (nodup_of_lt b1) a2 b2 (a4.trans b4.symm) a3 b3
  have hba := down_unique (ltH_asymm h) (nodup_of_lt b1) (nodup_of_lt a1) b2 a2 (b4.trans a4.symm) b3 a3
  exact sorted_unique (fun _ _ => str_asymm) a b a1 b1 hab hba
/-- The reference's loop: what is left. -/
def LeastInv (h : Str → Nat) (ids : List Str) (many : Nat) (out : List Str) : Prop :=
  out.Pairwise (· < ·) ∧ (∀ x ∈ out, x ∈ ids) ∧ Down (ltH h) ids out ∧ min many ids.length ≤ out.length ∧ out.length ≤ ids.length
theorem LeastInv.start {h : Str → Nat} {ids : List Str} {many : Nat} (hs : ids.Pairwise (· < ·)) : LeastInv h ids many ids :=
  ⟨hs, fun _ h => h, fun _ _ z hz hn => absurd hz hn, by omega, by omega⟩
theorem LeastInv.done {h : Str → Nat} {ids : List Str} {many : Nat} {out : List Str} (hi : LeastInv h ids many out) (hl : out.length ≤ many) : LeastSpec h ids many out := by
  obtain ⟨a, b, c, d, e⟩ := hi
  exact ⟨a, b, c, by omega⟩
/-- i is the place of the worst of the first k. -/
def WorstAt (h : Str → Nat) (l : List Str) (k i : Nat) : Prop :=
  i < l.length ∧ ∀ j, j < k → (hj : j < l.length) → h l[j] ≤ h (l.getD i []) ∧ (i < j → h l[j] < h (l.getD i []))
theorem WorstAt.start {h : Str → Nat} {l : List Str} (hl : 0 < l.length) : WorstAt h l 0 0 := ⟨hl, fun j hj => absurd hj (by omega)⟩
theorem WorstAt.take {h : Str → Nat} {l : List Str} {k i : Nat} (hw : WorstAt h l k i) (hk : k < l.length) (hle : h (l.getD i []) ≤ h l[k]) : WorstAt h l (k + 1) k := by
  have e : l.getD k [] = l[k] := by simp [List.getD, hk]
  refine ⟨hk, fun j hj hjl => ?_⟩
  rw [e]
  by_cases hjk : j = k
  · subst hjk
    exact ⟨Nat.le_refl _, fun h => absurd h (by omega)⟩
  · have := (hw.2 j (by omega) hjl).1
    exact ⟨by omega, fun h => absurd h (by omega)⟩
theorem WorstAt.keep {h : Str → Nat} {l : List Str} {k i : Nat} (hw : WorstAt h l k i) (hk : k < l.length) (hle : h l[k] < h (l.getD i [])) : WorstAt h l (k + 1) i := by
  refine ⟨hw.1, fun j hj hjl => ?_⟩
  by_cases hjk : j = k
  · subst hjk
    exact ⟨by omega, fun _ => hle⟩
  · exact hw.2 j (by omega) hjl
theorem LeastInv.step {h : Str → Nat} {ids : List Str} {many : Nat} {out : List Str} {i : Nat} (hi : LeastInv h ids many out) (hl : many < out.length) (hw : WorstAt h out out.length i) : LeastInv h ids many (out.eraseIdx i) := by
  obtain ⟨a, b, c, d, e⟩ := hi
  obtain ⟨hil, hw⟩ := hw
  have hsub := List.eraseIdx_sublist out i
  have hlen : (out.eraseIdx i).length = out.length - 1 := List.length_eraseIdx_of_lt hil
  refine ⟨a.sublist hsub, fun x hx => b x (hsub.subset hx), ?_, by omega, by omega⟩
  intro x hx z hz hzn
  by_cases hzo : z ∈ out
  · -- z is the worst
    obtain ⟨j, hj, rfl⟩ := List.getElem_of_mem hzo
    have hji : j = i := by
      refine Decidable.byContradiction fun hne => hzn ?_
      rw [List.mem_eraseIdx_iff_getElem?]
      exact ⟨j, hne, by simp [hj]⟩
    subst hji
    rw [List.mem_eraseIdx_iff_getElem?] at hx
    obtain ⟨m, hmi, hm⟩ := hx
    obtain ⟨hml, rfl⟩ := List.getElem?_eq_some_iff.1 hm
    have eg : out.getD j [] = out[j] := by simp [List.getD, hj]
    have h1 := hw m hml hml
    rw [eg] at h1
    rw [List.pairwise_iff_getElem] at a
    by_cases hlt : m < j
    · by_cases heq : h out[m] = h out[j]
      · exact .inr ⟨heq, a m j hml hj hlt⟩
      · exact .inl (by omega)
    · exact .inl (h1.2 (by omega))
  · exact c x (hsub.subset hx) z hz hzo

/-- What sample.least does: sorted by hash and name, cut, sorted by name. -/
theorem least_of_sorted {h : Str → Nat} {ids s : List Str} {many : Nat} (hids : ids.Pairwise (· < ·)) (hp : s.Perm ids) (hs : s.Pairwise (fun x y => ¬ ltH h y x)) :
    LeastSpec h ids many ((s.take (min many s.length)).mergeSort fun x y => decide (x ≤ y)) := by
  have hnd : s.Nodup := hp.nodup_iff.2 (nodup_of_lt hids)
  have hsl : s.length = ids.length := hp.length_eq
  have hperm := List.mergeSort_perm (s.take (min many s.length)) (fun x y => decide (x ≤ y))
  have hmem : ∀ x, x ∈ ((s.take (min many s.length)).mergeSort fun x y => decide (x ≤ y)) ↔ x ∈ s.take (min many s.length) := fun x => hperm.mem_iff
  have hnt : (s.take (min many s.length)).Nodup := hnd.sublist (List.take_sublist _ _)
  refine ⟨?_, fun x hx => hp.mem_iff.1 (List.mem_of_mem_take ((hmem x).1 hx)), ?_, ?_⟩
  · have h1 := List.pairwise_mergeSort (le := fun (x y : Str) => decide (x ≤ y)) (fun a b c h1 h2 => by simp at *; exact List.le_trans h1 h2) (fun a b => by simp; exact List.le_total a b) (s.take (min many s.length))
    have h2 : ((s.take (min many s.length)).mergeSort fun x y => decide (x ≤ y)).Nodup := hperm.nodup_iff.2 hnt
    refine (h1.and h2).imp ?_
    rintro a b ⟨hab, hne⟩
    simp at hab
    refine Decidable.byContradiction fun hn => hne ?_
    exact str_total hn (by simpa using hab)
  · intro a ha z hz hzn
    rw [hmem] at ha hzn
    have hzs := hp.mem_iff.2 hz
    rw [← List.take_append_drop (min many s.length) s] at hzs hs
    have hzd := (List.mem_append.1 hzs).resolve_left hzn
    have h3 := (List.pairwise_append.1 hs).2.2 a ha z hzd
    unfold ltH at h3 ⊢
    have hne : a ≠ z := fun e => hzn (e ▸ ha)
    by_cases h5 : h a < h z
    · exact .inl h5
    · refine .inr ?_
      have h6 : ¬ h z < h a := fun x => h3 (.inl x)
      have h7 : h a = h z := by omega
      refine ⟨h7, Decidable.byContradiction fun hn => hne ?_⟩
      exact str_total hn (fun x => h3 (.inr ⟨h7.symm, x⟩))
  · rw [List.length_mergeSort, List.length_take]
    omega

end Go.Proofs.YtkchninlhemioaaGreatDoor

/- The generator of seeds. -/
namespace Go.Proofs.YtkchninlhemioaaGreatDoor
set_option linter.unusedVariables false
set_option linter.unusedSimpArgs false
open Go.RowKit

/-- one, two, x-1, the empty string, A -/
def seeds : List Str := [[111, 110, 101], [116, 119, 111], [120, 45, 49], [111, 110, 101], [116, 119, 111], [], [65]]
set_option maxRecDepth 100000 in
set_option maxHeartbeats 400000 in
theorem seed_calls (w : World) (b N : Nat) (hS : Strm w b N) (hN : N ≤ 1000000000) : Calls Tryz.prog 7 #[.pointer (some ⟨b, 0, none⟩)] w (SomePost w b N seeds) := by
  have hb := hS.lt
  go_enter Tryz.func7, Tryz.ntmps7
  go_wp2_with fail
  refine (some_calls _ b N _ _ seeds (hS.alloc _) hN (Blk.new _ _ _) (by omega) (by decide) (by decide)).mono ?_
  rintro e w1 ⟨s, hs, rfl, hS1, hM1⟩
  go_wp2_with fail
  go_ret
  exact ⟨s, hs, rfl, hS1, ((Mod.refl _ w).alloc _).trans hM1⟩

end Go.Proofs.YtkchninlhemioaaGreatDoor
