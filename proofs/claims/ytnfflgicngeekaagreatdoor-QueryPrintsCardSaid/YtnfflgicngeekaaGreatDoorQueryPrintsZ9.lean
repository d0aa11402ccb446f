/- Texts of the proof of QueryPrints, put together: Picks, Gen, Strs, QryP, SlS, ItmP, ItmB, QuoP. -/
import Derived.Test.YtnfflgicngeekaaGreatDoorQueryPrintsZ8
import Derived.Deep.RegionHeld3
namespace Go.Proofs.YtnfflgicngeekaaGreatDoor
set_option linter.unusedVariables false
set_option linter.unusedSimpArgs false
open Go.RowKit

def RangePost (w : World) (b N : Nat) (lo hi : Int) (e : Ending) (w' : World) : Prop :=
 ∃ k : Int, lo ≤ k ∧ k ≤ hi ∧ e = .returned (.int .i64 k) ∧ Strm w' b (N + 1) ∧ Mod (· = b) w w'

set_option maxHeartbeats 400000 in
theorem range_calls (w : World) (b N : Nat) (lo hi : Int) (hS : Strm w b N) (hN : N ≤ 1000000000) (h1 : lo ≤ hi) (h2 : -4611686018427387904 ≤ lo) (h3 : hi ≤ 4611686018427387900) :
  Calls Tryz.prog 14 #[.pointer (some ⟨b, 0, none⟩), .int .i64 lo, .int .i64 hi] w (RangePost w b N lo hi) := by
 go_enter Tryz.func14, Tryz.ntmps14
 go_wp2_with fail
 refine (next_calls _ b N _ hS hN (by omega) (by omega)).mono ?_
 rintro e w' ⟨k, hk0, hk1, rfl, hS', hM⟩
 go_wp2_with fail
 go_ret
 exact ⟨_, by omega, by omega, rfl, hS', hM⟩

def FlipPost (w : World) (b N : Nat) (e : Ending) (w' : World) : Prop :=
 ∃ k : Bool, e = .returned (.bool k) ∧ Strm w' b (N + 1) ∧ Mod (· = b) w w'

set_option maxHeartbeats 400000 in
theorem flip_calls (w : World) (b N : Nat) (n : Int) (hS : Strm w b N) (hN : N ≤ 1000000000) (hn : 1 ≤ n) (hn2 : n ≤ 9223372036854775807) :
  Calls Tryz.prog 31 #[.pointer (some ⟨b, 0, none⟩), .int .i64 n] w (FlipPost w b N) := by
 go_enter Tryz.func31, Tryz.ntmps31
 go_wp2_with fail
 refine (next_calls _ b N _ hS hN hn hn2).mono ?_
 rintro e w' ⟨k, hk0, hk1, rfl, hS', hM⟩
 go_wp2_with fail
 go_ret
 exact ⟨_, rfl, hS', hM⟩

def PickPost (w : World) (b N : Nat) (xs : List Int) (e : Ending) (w' : World) : Prop :=
 ∃ k : Int, k ∈ xs ∧ e = .returned (.int .i64 k) ∧ Strm w' b (N + 1) ∧ Mod (· = b) w w'

def ints (xs : List Int) : List Value := xs.map (Value.int .i64)

set_option maxHeartbeats 400000 in
theorem pick_calls (w : World) (b N g c : Nat) (xs : List Int) (hS : Strm w b N) (hN : N ≤ 1000000000) (hx : Blk w g 3 (ints xs).toArray) (hgb : g ≠ b) (h0 : 0 < xs.length) (hl : xs.length ≤ 1000) :
  Calls Tryz.prog 40 #[.pointer (some ⟨b, 0, none⟩), .slice (some ⟨g, 0, none⟩) xs.length c] w (PickPost w b N xs) := by
 go_enter Tryz.func40, Tryz.ntmps40
 go_wp2_with fail
 refine (next_calls _ b N _ hS hN (by omega) (by omega)).mono ?_
 rintro e w' ⟨k, hk0, hk1, rfl, hS', hM⟩
 obtain ⟨i, rfl⟩ := Int.eq_ofNat_of_zero_le hk0
 have hi : i < xs.length := by omega
 have hc := (hx.mod hM hgb).cell i
 have hc2 : (ints xs).toArray[i]? = some (.int .i64 xs[i]) := by simp [ints, hi]
 rw [hc2] at hc
 have hm : xs[i] ∈ xs := List.getElem_mem hi
 generalize xs[i] = z at hc hm
 clear hc2
 go_wp2_with fail
 go_ret
 exact ⟨_, hm, rfl, hS', hM⟩

def OddPost (w : World) (b N : Nat) (e : Ending) (w' : World) : Prop :=
 ∃ k : Int, -1099511627776 ≤ k ∧ k ≤ 1099511627776 ∧ e = .returned (.int .i64 k) ∧ Strm w' b (N + 2) ∧ Mod (· = b) w w'

set_option maxHeartbeats 400000 in
theorem odd_calls (w : World) (b N : Nat) (lo hi : Int) (hS : Strm w b N) (hN : N ≤ 900000000) (h1 : lo ≤ hi) (h2 : -1099511627775 ≤ lo) (h3 : hi ≤ 1099511627775) :
  Calls Tryz.prog 54 #[.pointer (some ⟨b, 0, none⟩), .int .i64 lo, .int .i64 hi] w (OddPost w b N) := by
 go_enter Tryz.func54, Tryz.ntmps54
 go_wp2_with fail
 refine (flip_calls _ b N _ hS (by omega) (by omega) (by omega)).mono ?_
 rintro e w1 ⟨k, rfl, hS1, hM1⟩
 have hlt := hS1.lt
 cases k
 ·go_wp2_with fail
  refine (range_calls _ b _ _ _ hS1 (by omega) h1 (by omega) (by omega)).mono ?_
  rintro e w2 ⟨k, hk0, hk1, rfl, hS2, hM2⟩
  go_wp2_with fail
  go_ret
  exact ⟨_, by omega, by omega, rfl, hS2, hM1.trans hM2⟩
 ·go_wp2_with fail
  refine (pick_calls _ b _ _ _ [lo - 1, hi + 1, lo, hi, -1099511627776, 1099511627776] (hS1.pure ((Mod.refl _ _).alloc _)) (by omega) (Blk.new _ _ _) (by omega) (by simp) (by simp)).mono ?_
  rintro e w2 ⟨k, hk, rfl, hS2, hM2⟩
  go_wp2_with fail
  go_ret
  refine ⟨_, ?_, ?_, rfl, hS2, hM1.trans (((Mod.refl _ _).alloc _).trans hM2)⟩
  all_goals (simp at hk; omega)

end Go.Proofs.YtnfflgicngeekaaGreatDoor

/- Helpers that serve at any world: chains of facts over new blocks, draws, stores and calls. -/
namespace Go.Proofs.YtnfflgicngeekaaGreatDoor
set_option linter.unusedVariables false
set_option linter.unusedSimpArgs false
open Go.RowKit

section
variable {w w' : World} {g b i N : Nat} {t : TypeId} {cs : Array Value} {v : Value} {p : Addr} {S : Nat → Prop} {P : Prop}
theorem Blk.new' {k : Nat} (h : k = w.heap.size) : Blk (w.alloc (.cells cs t)) k t cs := by subst h; exact Blk.new _ _ _
theorem Blk.snd (w : World) (o : Obj) (t : TypeId) (cs : Array Value) : Blk ((w.alloc o).alloc (.cells cs t)) (w.heap.size + 1) t cs := by
 have := Blk.new (w.alloc o) t cs
 rw [World.size_alloc] at this
 exact this
theorem Blk.thd (w : World) (o o' : Obj) (t : TypeId) (cs : Array Value) : Blk (((w.alloc o).alloc o').alloc (.cells cs t)) (w.heap.size + 1 + 1) t cs := by
 have := Blk.new ((w.alloc o).alloc o') t cs
 rw [World.size_alloc, World.size_alloc] at this
 exact this
theorem Blk.modb (h : Blk w g t cs) (hb : Mod (· = b) w w') (hg : g ≠ b) : Blk w' g t cs := h.mod hb hg
theorem Blk.modp (h : Blk w g t cs) (hb : Pure w w') : Blk w' g t cs := h.mod hb id
theorem cell_alloc (h : w.cell? p = some v) (o : Obj) : (w.alloc o).cell? p = some v := (World.cell?_alloc_lt w _ _ (lt_of_cell h)).trans h
theorem keepp (h : w.cell? p = some v) (hm : Pure w w') : w'.cell? p = some v := hm.keep h id
theorem Mod.transp {a c d : World} (h : Mod S a c) (k : Pure c d) : Mod S a d := h.trans (Mod.of_pure k)
theorem Strm.modb (h : Strm w b N) (hm : Pure w w') : Strm w' b N := h.pure hm
end

section
variable {w w' : World} {g b i N : Nat} {t : TypeId} {cs : Array Value} {v : Value} {p : Addr} {S : Nat → Prop} {P : Prop}
theorem Mod.q_trans {a c d : World} (k : Mod S c d) (h : Mod S a c) : Mod S a d := h.trans k
theorem Mod.q_transp {a c d : World} (k : Pure c d) (h : Mod S a c) : Mod S a d := h.trans (Mod.of_pure k)
theorem Mod.q_set {a w : World} {p : Addr} (hp : a.heap.size ≤ p.block) (h : Mod S a w) (u : Value) : Mod S a (w.setCell p u) := h.setCell (.inr hp) u
theorem Strm.q_set (hp : b < p.block) (h : Strm w b N) (u : Value) : Strm (w.setCell p u) b N := h.setCell hp u
end

/-- A store into a block of another element type. -/
theorem Sl.set_ne {w : World} {e t : TypeId} {size g j : Nat} {v : Value} {xs : List Value} {cs : Array Value} (h : Sl w e size v xs) (hb : Blk w g t cs) (hne : e ≠ t) (u : Value) : Sl (w.setCell ⟨g, j, none⟩ u) e size v xs := by
 refine h.mod (S := fun i => i = g) (Mod.setCell (S := fun i => i = g) (p := ⟨g, j, none⟩) (Mod.refl _ _) (.inl rfl) u) (fun g' arr fr hh hg => ?_)
 subst hg
 unfold Blk at hb
 rw [hh] at hb
 injection hb with hb
 injection hb with _ ht
 exact hne ht
/-- The numbers of a list of cells. -/
def intsOf (cs : Array Value) : List Int := cs.toList.map intOf
def PickV (w : World) (b N : Nat) (cs : Array Value) (e : Ending) (w' : World) : Prop :=
 ∃ k : Int, k ∈ intsOf cs ∧ e = .returned (.int .i64 k) ∧ Strm w' b (N + 1) ∧ Mod (· = b) w w'
theorem pickv_calls (w : World) (b N g c n : Nat) (cs : Array Value) (hS : Strm w b N) (hx : Blk w g 3 cs) (hN : N ≤ 1000000000) (hgb : g ≠ b) (hn : n = (intsOf cs).length) (h0 : 0 < n) (hl : n ≤ 1000) (hi : cs = (ints (intsOf cs)).toArray) :
  Calls Tryz.prog 40 #[.pointer (some ⟨b, 0, none⟩), .slice (some ⟨g, 0, none⟩) n c] w (PickV w b N cs) := by
 subst hn
 rw [hi] at hx
 exact pick_calls w b N g c (intsOf cs) hS hN hx hgb h0 hl

end Go.Proofs.YtnfflgicngeekaaGreatDoor

/- The generators of strings: some10, Seed. -/
namespace Go.Proofs.YtnfflgicngeekaaGreatDoor
set_option linter.unusedVariables false
set_option linter.unusedSimpArgs false
open Go.RowKit

/-- A string's bytes. -/
abbrev Str := List UInt8
def strsV (ss : List Str) : List Value := ss.map fun l => Value.string ⟨l.toArray⟩
theorem strsV_len (ss : List Str) : (strsV ss).length = ss.length := by simp [strsV]
theorem strsV_get (ss : List Str) (i : Nat) (h : i < ss.length) : (strsV ss)[i]? = some (.string ⟨ss[i].toArray⟩) := by simp [strsV, h]
def SomePost (w : World) (b N : Nat) (ss : List Str) (e : Ending) (w' : World) : Prop :=
 ∃ s, s ∈ ss ∧ e = .returned (.string ⟨s.toArray⟩) ∧ Strm w' b (N + 1) ∧ Mod (· = b) w w'

set_option maxRecDepth 100000 in
set_option maxHeartbeats 400000 in
theorem some_calls (w : World) (b N g c : Nat) (ss : List Str) (hS : Strm w b N) (hN : N ≤ 1000000000) (hx : Blk w g 9 (strsV ss).toArray) (hgb : g ≠ b) (h0 : 0 < ss.length) (hl : ss.length ≤ 1000) :
  Calls Tryz.prog 52 #[.pointer (some ⟨b, 0, none⟩), .slice (some ⟨g, 0, none⟩) ss.length c] w (SomePost w b N ss) := by
 go_enter Tryz.func52, Tryz.ntmps52
 go_wp2_with fail
 refine (next_calls _ b N _ hS hN (by omega) (by omega)).mono ?_
 rintro e w' ⟨k, hk0, hk1, rfl, hS', hM⟩
 obtain ⟨i, rfl⟩ := Int.eq_ofNat_of_zero_le hk0
 have hi : i < ss.length := by omega
 have hc := (hx.mod hM hgb).cell i
 have hc2 : (strsV ss).toArray[i]? = some (.string ⟨ss[i].toArray⟩) := by simp [strsV, hi]
 rw [hc2] at hc
 have hm : ss[i] ∈ ss := List.getElem_mem hi
 generalize ss[i] = z at hc hm
 clear hc2
 go_wp2_with fail
 go_ret
 exact ⟨_, hm, rfl, hS', hM⟩

end Go.Proofs.YtnfflgicngeekaaGreatDoor

/- Searches, in plain words. -/
namespace Go.Proofs.YtnfflgicngeekaaGreatDoor
set_option linter.unusedVariables false
set_option linter.unusedSimpArgs false
open Go.RowKit

/-- A search, in plain words. -/
inductive Qry where
 | mk (kind : Int) (words : List Str) (num : Int) (args : List Qry)
instance : Inhabited Qry := ⟨.mk 0 [] 0 []⟩
def Qry.kind : Qry → Int | .mk k _ _ _ => k
def Qry.words : Qry → List Str | .mk _ w _ _ => w
def Qry.num : Qry → Int | .mk _ _ n _ => n
def Qry.args : Qry → List Qry | .mk _ _ _ a => a
theorem Qry.sz {k : Int} {ws : List Str} {n : Int} {xs : List Qry} {a : Qry} (h : a ∈ xs) : SizeOf.sizeOf a < SizeOf.sizeOf (Qry.mk k ws n xs) := by
 have := List.sizeOf_lt_of_mem h
 simp
 omega
theorem Qry.ind {P : Qry → Prop} (h : ∀ k ws n xs, (∀ a ∈ xs, P a) → P (.mk k ws n xs)) : ∀ q, P q
 | .mk k ws n xs => h k ws n xs (fun a _ha => Qry.ind h a)
termination_by q => SizeOf.sizeOf q
decreasing_by exact Qry.sz _ha

def nearK (k : Int) : Bool := decide (k = 4) || decide (k = 5)
/-- How many searches there are in one, how deep they are, and how many near ones one within the other. -/
def qSize : Qry → Nat | .mk _ _ _ xs => 1 + (xs.map qSize).sum
def qDeep : Qry → Nat | .mk _ _ _ xs => 1 + (xs.map qDeep).foldr max 0
def qNear : Qry → Nat | .mk k _ _ xs => (xs.map qNear).foldr max 0 + (if nearK k then 1 else 0)
/-- Whether a search, begun in such a state, is not too large. -/
def qFit (q : Qry) (m d r : Nat) : Bool := decide (m + qSize q ≤ 100) && (decide (d + qDeep q ≤ 12) && decide (r + qNear q ≤ 3))
theorem foldr_max_le {l : List Nat} {m : Nat} : l.foldr max 0 ≤ m ↔ ∀ x ∈ l, x ≤ m := by
 induction l with
 | nil => simp
 | cons x xs ih => simp [Nat.max_le, ih]
theorem qFit_iff {k : Int} {ws : List Str} {n : Int} {xs : List Qry} {m d r : Nat} : qFit (.mk k ws n xs) m d r = true ↔ m + 1 + (xs.map qSize).sum ≤ 100 ∧ d + 1 ≤ 12 ∧ r + (if nearK k then 1 else 0) ≤ 3 ∧ (∀ a ∈ xs, d + 1 + qDeep a ≤ 12) ∧ ∀ a ∈ xs, r + (if nearK k then 1 else 0) + qNear a ≤ 3 := by
 unfold qFit
 rw [qSize, qDeep, qNear]
 generalize (if nearK k = true then 1 else 0) = t
 simp only [Bool.and_eq_true, decide_eq_true_eq]
 have h1 : d + (1 + (xs.map qDeep).foldr max 0) ≤ 12 ↔ d + 1 ≤ 12 ∧ ∀ a ∈ xs, d + 1 + qDeep a ≤ 12 := by
  constructor
  ·intro h
   refine ⟨by omega, fun a ha => ?_⟩
   have := (foldr_max_le.1 (Nat.le_refl ((xs.map qDeep).foldr max 0))) _ (List.mem_map.2 ⟨a, ha, rfl⟩)
   omega
  ·rintro ⟨h, h2⟩
   have : (xs.map qDeep).foldr max 0 ≤ 12 - (d + 1) := foldr_max_le.2 (fun x hx => by
    obtain ⟨a, ha, rfl⟩ := List.mem_map.1 hx
    have := h2 a ha
    omega)
   omega
 have h2 : r + ((xs.map qNear).foldr max 0 + t) ≤ 3 ↔ r + t ≤ 3 ∧ ∀ a ∈ xs, r + t + qNear a ≤ 3 := by
  constructor
  ·intro h
   refine ⟨by omega, fun a ha => ?_⟩
   have := (foldr_max_le.1 (Nat.le_refl ((xs.map qNear).foldr max 0))) _ (List.mem_map.2 ⟨a, ha, rfl⟩)
   omega
  ·rintro ⟨h, h2⟩
   have : (xs.map qNear).foldr max 0 ≤ 3 - (r + t) := foldr_max_le.2 (fun x hx => by
    obtain ⟨a, ha, rfl⟩ := List.mem_map.1 hx
    have := h2 a ha
    omega)
   omega
 rw [h1, h2]
 constructor
 ·rintro ⟨a, b, c⟩; exact ⟨by omega, b.1, c.1, b.2, c.2⟩
 ·rintro ⟨a, b, c, d, e⟩; exact ⟨by omega, ⟨b, d⟩, c, e⟩
/-- The searches before number j have been counted. -/
def qSum (xs : List Qry) (j : Nat) : Nat := ((xs.take j).map qSize).sum
theorem qSum_zero (xs : List Qry) : qSum xs 0 = 0 := by simp [qSum]
theorem qSum_succ {xs : List Qry} {j : Nat} (h : j < xs.length) : qSum xs (j + 1) = qSum xs j + qSize xs[j] := by
 unfold qSum
 rw [List.take_succ_eq_append_getElem h, List.map_append, List.sum_append]
 simp only [List.map_cons, List.map_nil, List.sum_cons, List.sum_nil, Nat.add_zero]
theorem qSum_le (xs : List Qry) (j : Nat) : qSum xs j ≤ (xs.map qSize).sum := by
 unfold qSum
 have h : (xs.map qSize).sum = ((xs.take j).map qSize).sum + ((xs.drop j).map qSize).sum := by
  rw [← List.sum_append, ← List.map_append, List.take_append_drop]
 omega
theorem qSum_all (xs : List Qry) : qSum xs xs.length = (xs.map qSize).sum := by simp [qSum]
theorem qSize_pos (q : Qry) : 1 ≤ qSize q := by cases q; rw [qSize]; omega
/-- One of the searches within does not fit: the whole does not. -/
theorem qFit_arg {k : Int} {ws : List Str} {n : Int} {xs : List Qry} {m d r j : Nat} (hj : j < xs.length) (h : qFit xs[j] (m + 1 + qSum xs j) (d + 1) (r + (if nearK k then 1 else 0)) = false) : qFit (.mk k ws n xs) m d r = false := by
 rw [Bool.eq_false_iff]
 intro hf
 obtain ⟨h1, h2, h3, h4, h5⟩ := qFit_iff.1 hf
 have h6 := qSum_succ hj
 have h7 := qSum_le xs (j + 1)
 have h8 := h4 _ (List.getElem_mem hj)
 have h9 := h5 _ (List.getElem_mem hj)
 rw [Bool.eq_false_iff] at h
 apply h
 unfold qFit
 simp only [Bool.and_eq_true, decide_eq_true_eq]
 omega
theorem qFit_all {k : Int} {ws : List Str} {n : Int} {xs : List Qry} {m d r : Nat} (hd : d + 1 ≤ 12) (hm : m + 1 ≤ 100) (hr : r + (if nearK k then 1 else 0) ≤ 3) (h : ∀ j (hj : j < xs.length), qFit xs[j] (m + 1 + qSum xs j) (d + 1) (r + (if nearK k then 1 else 0)) = true) : qFit (.mk k ws n xs) m d r = true := by
 refine qFit_iff.2 ⟨?_, hd, hr, fun a ha => ?_, fun a ha => ?_⟩
 ·by_cases h0 : xs.length = 0
  ·have : xs = [] := by cases xs; rfl; cases h0
   subst this
   simp only [List.map_nil, List.sum_nil]
   omega
  ·have h1 := h (xs.length - 1) (by omega)
   unfold qFit at h1
   simp only [Bool.and_eq_true, decide_eq_true_eq] at h1
   have h2 := qSum_succ (xs := xs) (j := xs.length - 1) (by omega)
   rw [show xs.length - 1 + 1 = xs.length by omega, qSum_all] at h2
   omega
 ·obtain ⟨j, hj, rfl⟩ := List.getElem_of_mem ha
  have h1 := h j hj
  unfold qFit at h1
  simp only [Bool.and_eq_true, decide_eq_true_eq] at h1
  omega
 ·obtain ⟨j, hj, rfl⟩ := List.getElem_of_mem ha
  have h1 := h j hj
  unfold qFit at h1
  simp only [Bool.and_eq_true, decide_eq_true_eq] at h1
  omega

end Go.Proofs.YtnfflgicngeekaaGreatDoor

/- Slices of one-cell elements: their rows. -/
namespace Go.Proofs.YtnfflgicngeekaaGreatDoor
set_option linter.unusedVariables false
set_option linter.unusedSimpArgs false
open Go.RowKit

theorem Sl.lenS {w : World} {A : Option Addr} {n c : Nat} {xs : List Str} (h : Sl w 9 1 (.slice A n c) (strsV xs)) : xs.length = n := by
 obtain ⟨A', n', c', hf, _, _, hl, _⟩ := h
 injection hf with _ h2 _
 simp [strsV] at hl
 omega
theorem Sl.rowS {w : World} {A : Option Addr} {n c : Nat} {e : TypeId} {xs : List Value} (h : Sl w e 1 (.slice A n c) xs) (hn : 0 < n) : ∃ g off, A = some ⟨g, off, none⟩ ∧ RowAt w e g off xs := by
 obtain ⟨A', n', c', hf, _, _, hl, hr⟩ := h
 injection hf with h1 h2 _
 subst h1 h2
 exact hr hn

end Go.Proofs.YtnfflgicngeekaaGreatDoor

/- Items: their plain form; ways from parent to parent; the errors of items together. -/
namespace Go.Proofs.YtnfflgicngeekaaGreatDoor
set_option linter.unusedVariables false
set_option linter.unusedSimpArgs false
open Go.RowKit

/-- An item. -/
structure Itm where
 id : Str
 cust : Str
 kind : Int
 name : Str
 tm : Int
 par : Str
 text : Str

/-- The first item with an id. -/
def plc : List Itm → Str → Option Nat
 | [], _ => none
 | x :: l, s => if x.id = s then some 0 else (plc l s).map (· + 1)
theorem plc_lt : ∀ (l : List Itm) (s : Str) (k : Nat), plc l s = some k → ∃ h : k < l.length, l[k].id = s
 | [], s, k, h => by simp [plc] at h
 | x :: l, s, k, h => by
  unfold plc at h
  split at h
  ·rename_i hx
   injection h with h
   subst h
   exact ⟨by simp, by simpa using hx⟩
  ·cases hp : plc l s with
   | none => rw [hp] at h; simp at h
   | some j =>
    rw [hp] at h
    simp at h
    subst h
    obtain ⟨h1, h2⟩ := plc_lt l s j hp
    exact ⟨by simpa using h1, by simpa using h2⟩
/-- The number of the item above item i, if there is one. -/
def upI (l : List Itm) (i : Nat) : Option Nat :=
 match l[i]? with
 | none => none
 | some x => if x.par = [] then none else plc l x.par
theorem upI_lt {l : List Itm} {i k : Nat} (h : upI l i = some k) : k < l.length := by
 unfold upI at h
 split at h
 ·cases h
 ·split at h
  ·cases h
  ·exact (plc_lt _ _ _ h).1
/-- The numbers above item i, the nearest first, at most n of them. -/
def chn (l : List Itm) : Nat → Nat → List Nat
 | 0, _ => []
 | n + 1, i => match upI l i with
  | none => []
  | some k => k :: chn l n k
/-- The item n steps above item i. -/
def stp (l : List Itm) : Nat → Nat → Option Nat
 | 0, i => some i
 | n + 1, i => (upI l i).bind (stp l n)
theorem stp_add (l : List Itm) : ∀ a b i, stp l (a + b) i = (stp l a i).bind (stp l b)
 | 0, b, i => by simp [stp]
 | a + 1, b, i => by
  rw [show a + 1 + b = (a + b) + 1 by omega]
  simp only [stp]
  cases upI l i with
  | none => rfl
  | some k => simp [stp_add l a b k]
theorem chn_get (l : List Itm) : ∀ n i j, (chn l n i)[j]? = if j < n then stp l (j + 1) i else none
 | 0, i, j => by simp [chn]
 | n + 1, i, j => by
  cases hu : upI l i with
  | none =>
   have e : stp l (j + 1) i = none := by simp [stp, hu]
   simp [chn, hu, e]
  | some k =>
   have e : chn l (n + 1) i = k :: chn l n k := by simp [chn, hu]
   rw [e]
   cases j with
   | zero => simp [stp, hu]
   | succ j =>
    rw [List.getElem?_cons_succ, chn_get l n k j]
    have e2 : stp l (j + 1 + 1) i = stp l (j + 1) k := by
     rw [stp, hu]
     rfl
    rw [e2]
    by_cases h : j < n
    ·rw [if_pos h, if_pos (by omega)]
    ·rw [if_neg h, if_neg (by omega)]
theorem mem_chn (l : List Itm) (n i x : Nat) : x ∈ chn l n i ↔ ∃ j, j < n ∧ stp l (j + 1) i = some x := by
 rw [List.mem_iff_getElem?]
 constructor
 ·rintro ⟨j, h⟩
  rw [chn_get] at h
  split at h
  ·exact ⟨j, ‹_›, h⟩
  ·cases h
 ·rintro ⟨j, h1, h2⟩
  exact ⟨j, by rw [chn_get, if_pos h1]; exact h2⟩
/-- From item i one comes back to it. -/
def lpB (l : List Itm) (i : Nat) : Bool := (chn l l.length i).contains i
/-- The cells of an item. -/
def itC (x : Itm) : List Value := [.string ⟨x.id.toArray⟩, .string ⟨x.cust.toArray⟩, .int .i64 x.kind, .string ⟨x.name.toArray⟩, .int .i64 x.tm, .string ⟨x.par.toArray⟩, .string ⟨x.text.toArray⟩]
def itV (xs : List Itm) : List Value := xs.flatMap itC
/-- The strings of an item are not too long. -/
def ItB (x : Itm) : Prop := x.id.length ≤ 100 ∧ x.cust.length ≤ 30000 ∧ x.name.length ≤ 30000 ∧ x.par.length ≤ 30000 ∧ x.text.length ≤ 30000
end Go.Proofs.YtnfflgicngeekaaGreatDoor

/- Items found by their ids; the numbers above an item, step by step. -/
namespace Go.Proofs.YtnfflgicngeekaaGreatDoor
set_option linter.unusedVariables false
set_option linter.unusedSimpArgs false
open Go.RowKit

/-- What an id leads to in the map of items. -/
def itA (x : Itm) : Value := .agg #[.string ⟨x.id.toArray⟩, .string ⟨x.cust.toArray⟩, .int .i64 x.kind, .string ⟨x.name.toArray⟩, .int .i64 x.tm, .string ⟨x.par.toArray⟩, .string ⟨x.text.toArray⟩]
/-- j steps above item i are taken, item q is reached, and i has not come back. -/
structure Upto (l : List Itm) (i j q : Nat) : Prop where
 at_ : stp l j i = some q
 lt : q < l.length
 not : ∀ a, a < j → stp l (a + 1) i ≠ some i
theorem Upto.start {l : List Itm} {i : Nat} (h : i < l.length) : Upto l i 0 i := ⟨rfl, h, fun a ha => by omega⟩
theorem stp_succ {l : List Itm} {i j q : Nat} (h : stp l j i = some q) : stp l (j + 1) i = upI l q := by
 rw [stp_add, h]
 show (upI l q).bind (stp l 0) = _
 cases upI l q <;> rfl
theorem Upto.step {l : List Itm} {i j q k : Nat} (h : Upto l i j q) (hu : upI l q = some k) (hk : k ≠ i) : Upto l i (j + 1) k := by
 have h1 := stp_succ h.at_
 refine ⟨h1.trans hu, upI_lt hu, fun a ha => ?_⟩
 rcases Nat.eq_or_lt_of_le (Nat.le_of_lt_succ ha) with rfl | hlt
 ·rw [h1, hu]
  intro e
  injection e with e
  exact hk e
 ·exact h.not a hlt
theorem Upto.back {l : List Itm} {i j q : Nat} (h : Upto l i j q) (hu : upI l q = some i) (hj : j < l.length) : lpB l i = true := by
 unfold lpB
 rw [List.contains_iff_mem, mem_chn]
 exact ⟨j, hj, (stp_succ h.at_).trans hu⟩
end Go.Proofs.YtnfflgicngeekaaGreatDoor

/- Quoted strings and digests: the plain facts. -/
namespace Go.Proofs.YtnfflgicngeekaaGreatDoor
set_option linter.unusedVariables false
set_option linter.unusedSimpArgs false

/-- A hex digit. -/
def hexD (n : Nat) : UInt8 := if n < 10 then UInt8.ofNat (48 + n) else UInt8.ofNat (87 + n)
/-- A byte within quotes. -/
def quoB (c : UInt8) : Str := if c = 34 ∨ c = 92 then [92, c] else if c = 10 then [92, 110] else if c < 33 ∨ 126 < c then [92, 120, hexD (c.toNat / 16), hexD (c.toNat % 16)] else [c]
/-- The value of a hex digit as strconv reads it; 255: none. -/
def hexV (c : UInt8) : Nat := if 48 ≤ c ∧ c ≤ 57 then c.toNat - 48 else if 97 ≤ (c ||| 32) ∧ (c ||| 32) ≤ 102 then (c ||| 32).toNat - 87 else 255
/-- What stands at the beginning of a quoted string: a byte and how many it takes; 0: none. -/
def escP : Str → UInt8 × Nat
 | [] => (0, 0)
 | c :: r => if c ≠ 92 then (c, 1) else match r with
  | [] => (0, 0)
  | d :: r2 => if d = 110 then (10, 2) else if d = 34 ∨ d = 92 then (d, 2) else if d = 120 then (match r2 with
    | h :: l :: _ => if hexV h < 16 ∧ hexV l < 16 then (UInt8.ofNat (hexV h * 16 + hexV l), 4) else (0, 0)
    | _ => (0, 0)) else (0, 0)
/-- One byte of a quoted string. -/
def decP (s : Str) : Option (UInt8 × Nat) := if (escP s).2 ≠ 0 ∧ quoB (escP s).1 = s.take (escP s).2 then some (escP s) else none
theorem escP_quo : ∀ c : UInt8, c ≠ 34 ∨ True → ∀ t : Str, escP (quoB c ++ t) = (c, (quoB c).length) := by
 intro c _ t
 have key : ∀ n : Fin 256, (let c := UInt8.ofNat n.val; ((quoB c).length = 1 ∧ quoB c = [c] ∧ c ≠ 92) ∨ ((quoB c).length = 2 ∧ quoB c = [92, (quoB c).getD 1 0] ∧ ((quoB c).getD 1 0 = 110 ∧ c = 10 ∨ (quoB c).getD 1 0 = c ∧ (c = 34 ∨ c = 92))) ∨ ((quoB c).length = 4 ∧ quoB c = [92, 120, hexD (c.toNat / 16), hexD (c.toNat % 16)] ∧ hexV (hexD (c.toNat / 16)) < 16 ∧ hexV (hexD (c.toNat % 16)) < 16 ∧ UInt8.ofNat (hexV (hexD (c.toNat / 16)) * 16 + hexV (hexD (c.toNat % 16))) = c)) := by decide +kernel
 have hc := key ⟨c.toNat, c.toNat_lt⟩
 simp only [UInt8.ofNat_toNat] at hc
 rcases hc with ⟨h1, h2, h3⟩ | ⟨h1, h2, h3⟩ | ⟨h1, h2, h3, h4, h5⟩
 ·rw [h1, h2]
  simp [escP, h3]
 ·rw [h1, h2]
  rcases h3 with ⟨h3, h4⟩ | ⟨h3, h4⟩
  ·rw [h3]
   simp [escP, h4]
  ·rw [h3]
   rcases h4 with h4 | h4 <;> simp [escP, h4]
 ·rw [h1, h2]
  simp [escP, h3, h4, h5]
theorem decP_some {s : Str} {c : UInt8} {n : Nat} (h : decP s = some (c, n)) : n = (quoB c).length ∧ quoB c <+: s := by
 unfold decP at h
 split at h
 ·rename_i hh
  injection h with h
  have h2 := hh.2
  rw [h] at h2
  simp only at h2
  have hp : quoB c <+: s := by rw [h2]; exact List.take_prefix _ _
  refine ⟨?_, hp⟩
  obtain ⟨t, ht⟩ := hp
  have h3 := escP_quo c (.inr trivial) t
  rw [ht, h] at h3
  injection h3
 ·cases h
/-- What a quoted string at the beginning is, behind the bytes acc, at the place at. -/
def unqF : Nat → Str → Str → Nat → Option (Str × Nat)
 | 0, _, _, _ => none
 | _ + 1, [], _, _ => none
 | f + 1, c :: r, acc, at_ => if c = 34 then some (acc, at_ + 1) else match decP (c :: r) with
  | none => none
  | some (d, n) => unqF f ((c :: r).drop n) (acc ++ [d]) (at_ + n)
def unqS : Str → Option (Str × Nat)
 | 34 :: r => unqF (r.length + 1) r [] 1
 | _ => none

/-- The last k hex digits of h. -/
def hexR (h : Nat) : Nat → Str
 | 0 => []
 | k + 1 => hexD (h / 16 ^ k % 16) :: hexR h k
theorem hexR_len (h : Nat) : ∀ k, (hexR h k).length = k
 | 0 => rfl
 | k + 1 => by simp [hexR, hexR_len h k]
end Go.Proofs.YtnfflgicngeekaaGreatDoor
