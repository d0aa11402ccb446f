/- Texts of the proof of DecisionTexts, put together: Picks, Gen, Strs, SlS, QuoP. -/
import Derived.Test.YtaidkmnbjbnciaaGreatDoorDecisionTextsZ11
import Derived.Deep.RegionHeld3
namespace Go.Proofs.YtaidkmnbjbnciaaGreatDoor
set_option linter.unusedVariables false
set_option linter.unusedSimpArgs false
open Go.RowKit

def RangePost (w : World) (b N : Nat) (lo hi : Int) (e : Ending) (w' : World) : Prop :=
 ∃ k : Int, lo ≤ k ∧ k ≤ hi ∧ e = .returned (.int .i64 k) ∧ Strm w' b (N + 1) ∧ Mod (· = b) w w'

set_option maxHeartbeats 400000 in
theorem range_calls (w : World) (b N : Nat) (lo hi : Int) (hS : Strm w b N) (hN : N ≤ 1000000000) (h1 : lo ≤ hi) (h2 : -4611686018427387904 ≤ lo) (h3 : hi ≤ 4611686018427387900) :
  Calls Tryz.prog 18 #[.pointer (some ⟨b, 0, none⟩), .int .i64 lo, .int .i64 hi] w (RangePost w b N lo hi) := by
 go_enter Tryz.func18, Tryz.ntmps18
 go_wp2_with fail
 refine (next_calls _ b N _ hS hN (by omega) (by omega)).mono ?_
 rintro e w' ⟨k, hk0, hk1, rfl, hS', hM⟩
 go_wp2_with fail
 go_ret
 exact ⟨_, by omega, by omega, rfl, hS', hM⟩

def FlipPost (w : World) (b N : Nat) (e : Ending) (w' : World) : Prop :=
 ∃ k : Bool, e = .returned (.bool k) ∧ Strm w' b (N + 1) ∧ Mod (· = b) w w'

set_option maxHeartbeats 400000 in
theorem flip_calls (w : World) (b N : Nat) (n : Int) (hS : Strm w b N) (hN : N ≤ 1000000000) (hn : 1 ≤ n) (hn2 : n ≤ 9223372036854775807) :
  Calls Tryz.prog 28 #[.pointer (some ⟨b, 0, none⟩), .int .i64 n] w (FlipPost w b N) := by
 go_enter Tryz.func28, Tryz.ntmps28
 go_wp2_with fail
 refine (next_calls _ b N _ hS hN hn hn2).mono ?_
 rintro e w' ⟨k, hk0, hk1, rfl, hS', hM⟩
 go_wp2_with fail
 go_ret
 exact ⟨_, rfl, hS', hM⟩

def PickPost (w : World) (b N : Nat) (xs : List Int) (e : Ending) (w' : World) : Prop :=
 ∃ k : Int, k ∈ xs ∧ e = .returned (.int .i64 k) ∧ Strm w' b (N + 1) ∧ Mod (· = b) w w'

def ints (xs : List Int) : List Value := xs.map (Value.int .i64)

set_option maxHeartbeats 400000 in
theorem pick_calls (w : World) (b N g c : Nat) (xs : List Int) (hS : Strm w b N) (hN : N ≤ 1000000000) (hx : Blk w g 3 (ints xs).toArray) (hgb : g ≠ b) (h0 : 0 < xs.length) (hl : xs.length ≤ 1000) :
  Calls Tryz.prog 32 #[.pointer (some ⟨b, 0, none⟩), .slice (some ⟨g, 0, none⟩) xs.length c] w (PickPost w b N xs) := by
 go_enter Tryz.func32, Tryz.ntmps32
 go_wp2_with fail
 refine (next_calls _ b N _ hS hN (by omega) (by omega)).mono ?_
 rintro e w' ⟨k, hk0, hk1, rfl, hS', hM⟩
 obtain ⟨i, rfl⟩ := Int.eq_ofNat_of_zero_le hk0
 have hi : i < xs.length := by omega
 have hc := (hx.mod hM hgb).cell i
 have hc2 : (ints xs).toArray[i]? = some (.int .i64 xs[i]) := by simp [ints, hi]
 rw [hc2] at hc
 have hm : xs[i] ∈ xs := List.getElem_mem hi
 generalize xs[i] = z at hc hm
 clear hc2
 go_wp2_with fail
 go_ret
 exact ⟨_, hm, rfl, hS', hM⟩

def OddPost (w : World) (b N : Nat) (e : Ending) (w' : World) : Prop :=
 ∃ k : Int, -1099511627776 ≤ k ∧ k ≤ 1099511627776 ∧ e = .returned (.int .i64 k) ∧ Strm w' b (N + 2) ∧ Mod (· = b) w w'

set_option maxHeartbeats 400000 in
theorem odd_calls (w : World) (b N : Nat) (lo hi : Int) (hS : Strm w b N) (hN : N ≤ 900000000) (h1 : lo ≤ hi) (h2 : -1099511627775 ≤ lo) (h3 : hi ≤ 1099511627775) :
  Calls Tryz.prog 55 #[.pointer (some ⟨b, 0, none⟩), .int .i64 lo, .int .i64 hi] w (OddPost w b N) := by
 go_enter Tryz.func55, Tryz.ntmps55
 go_wp2_with fail
 refine (flip_calls _ b N _ hS (by omega) (by omega) (by omega)).mono ?_
 rintro e w1 ⟨k, rfl, hS1, hM1⟩
 have hlt := hS1.lt
 cases k
 ·go_wp2_with fail
  refine (range_calls _ b _ _ _ hS1 (by omega) h1 (by omega) (by omega)).mono ?_
  rintro e w2 ⟨k, hk0, hk1, rfl, hS2, hM2⟩
  go_wp2_with fail
  go_ret
  exact ⟨_, by omega, by omega, rfl, hS2, hM1.trans hM2⟩
 ·go_wp2_with fail
  refine (pick_calls _ b _ _ _ [lo - 1, hi + 1, lo, hi, -1099511627776, 1099511627776] (hS1.pure ((Mod.refl _ _).alloc _)) (by omega) (Blk.new _ _ _) (by omega) (by simp) (by simp)).mono ?_
  rintro e w2 ⟨k, hk, rfl, hS2, hM2⟩
  go_wp2_with fail
  go_ret
  refine ⟨_, ?_, ?_, rfl, hS2, hM1.trans (((Mod.refl _ _).alloc _).trans hM2)⟩
  all_goals (simp at hk; omega)

end Go.Proofs.YtaidkmnbjbnciaaGreatDoor

/- Helpers that serve at any world: chains of facts over new blocks, draws, stores and calls. -/
namespace Go.Proofs.YtaidkmnbjbnciaaGreatDoor
set_option linter.unusedVariables false
set_option linter.unusedSimpArgs false
open Go.RowKit

section
variable {w w' : World} {g b i N : Nat} {t : TypeId} {cs : Array Value} {v : Value} {p : Addr} {S : Nat → Prop} {P : Prop}
theorem Blk.new' {k : Nat} (h : k = w.heap.size) : Blk (w.alloc (.cells cs t)) k t cs := by subst h; exact Blk.new _ _ _
theorem Blk.snd (w : World) (o : Obj) (t : TypeId) (cs : Array Value) : Blk ((w.alloc o).alloc (.cells cs t)) (w.heap.size + 1) t cs := by
 have := Blk.new (w.alloc o) t cs
 rw [World.size_alloc] at this
 exact this
theorem Blk.thd (w : World) (o o' : Obj) (t : TypeId) (cs : Array Value) : Blk (((w.alloc o).alloc o').alloc (.cells cs t)) (w.heap.size + 1 + 1) t cs := by
 have := Blk.new ((w.alloc o).alloc o') t cs
 rw [World.size_alloc, World.size_alloc] at this
 exact this
theorem Blk.modb (h : Blk w g t cs) (hb : Mod (· = b) w w') (hg : g ≠ b) : Blk w' g t cs := h.mod hb hg
theorem Blk.modp (h : Blk w g t cs) (hb : Pure w w') : Blk w' g t cs := h.mod hb id
theorem Blk.set2 {a b x y : Value} (h : Blk w g t #[a, b]) : Blk ((w.setCell ⟨g, 0, none⟩ x).setCell ⟨g, 1, none⟩ y) g t #[x, y] := by
 have := (h.set 0 x).set 1 y
 simpa using this
theorem Blk.set3 {a b c x y z : Value} (h : Blk w g t #[a, b, c]) : Blk (((w.setCell ⟨g, 0, none⟩ x).setCell ⟨g, 1, none⟩ y).setCell ⟨g, 2, none⟩ z) g t #[x, y, z] := by
 have := ((h.set 0 x).set 1 y).set 2 z
 simpa using this
theorem cell_alloc (h : w.cell? p = some v) (o : Obj) : (w.alloc o).cell? p = some v := (World.cell?_alloc_lt w _ _ (lt_of_cell h)).trans h
theorem Mod.transp {a c d : World} (h : Mod S a c) (k : Pure c d) : Mod S a d := h.trans (Mod.of_pure k)
theorem Strm.modb (h : Strm w b N) (hm : Pure w w') : Strm w' b N := h.pure hm
end

section
variable {w w' : World} {g b i N : Nat} {t : TypeId} {cs : Array Value} {v : Value} {p : Addr} {S : Nat → Prop} {P : Prop}
end

/-- The numbers of a list of cells. -/
def intsOf (cs : Array Value) : List Int := cs.toList.map intOf
def PickV (w : World) (b N : Nat) (cs : Array Value) (e : Ending) (w' : World) : Prop :=
 ∃ k : Int, k ∈ intsOf cs ∧ e = .returned (.int .i64 k) ∧ Strm w' b (N + 1) ∧ Mod (· = b) w w'
theorem pickv_calls (w : World) (b N g c n : Nat) (cs : Array Value) (hS : Strm w b N) (hx : Blk w g 3 cs) (hN : N ≤ 1000000000) (hgb : g ≠ b) (hn : n = (intsOf cs).length) (h0 : 0 < n) (hl : n ≤ 1000) (hi : cs = (ints (intsOf cs)).toArray) :
  Calls Tryz.prog 32 #[.pointer (some ⟨b, 0, none⟩), .slice (some ⟨g, 0, none⟩) n c] w (PickV w b N cs) := by
 subst hn
 rw [hi] at hx
 exact pick_calls w b N g c (intsOf cs) hS hN hx hgb h0 hl

end Go.Proofs.YtaidkmnbjbnciaaGreatDoor

/- The generators of strings: some10, Seed. -/
namespace Go.Proofs.YtaidkmnbjbnciaaGreatDoor
set_option linter.unusedVariables false
set_option linter.unusedSimpArgs false
open Go.RowKit

/-- A string's bytes. -/
abbrev Str := List UInt8
def strsV (ss : List Str) : List Value := ss.map fun l => Value.string ⟨l.toArray⟩
theorem strsV_len (ss : List Str) : (strsV ss).length = ss.length := by simp [strsV]
theorem strsV_get (ss : List Str) (i : Nat) (h : i < ss.length) : (strsV ss)[i]? = some (.string ⟨ss[i].toArray⟩) := by simp [strsV, h]
def SomePost (w : World) (b N : Nat) (ss : List Str) (e : Ending) (w' : World) : Prop :=
 ∃ s, s ∈ ss ∧ e = .returned (.string ⟨s.toArray⟩) ∧ Strm w' b (N + 1) ∧ Mod (· = b) w w'

set_option maxRecDepth 100000 in
set_option maxHeartbeats 400000 in
theorem some_calls (w : World) (b N g c : Nat) (ss : List Str) (hS : Strm w b N) (hN : N ≤ 1000000000) (hx : Blk w g 9 (strsV ss).toArray) (hgb : g ≠ b) (h0 : 0 < ss.length) (hl : ss.length ≤ 1000) :
  Calls Tryz.prog 54 #[.pointer (some ⟨b, 0, none⟩), .slice (some ⟨g, 0, none⟩) ss.length c] w (SomePost w b N ss) := by
 go_enter Tryz.func54, Tryz.ntmps54
 go_wp2_with fail
 refine (next_calls _ b N _ hS hN (by omega) (by omega)).mono ?_
 rintro e w' ⟨k, hk0, hk1, rfl, hS', hM⟩
 obtain ⟨i, rfl⟩ := Int.eq_ofNat_of_zero_le hk0
 have hi : i < ss.length := by omega
 have hc := (hx.mod hM hgb).cell i
 have hc2 : (strsV ss).toArray[i]? = some (.string ⟨ss[i].toArray⟩) := by simp [strsV, hi]
 rw [hc2] at hc
 have hm : ss[i] ∈ ss := List.getElem_mem hi
 generalize ss[i] = z at hc hm
 clear hc2
 go_wp2_with fail
 go_ret
 exact ⟨_, hm, rfl, hS', hM⟩

end Go.Proofs.YtaidkmnbjbnciaaGreatDoor

/- Slices of one-cell elements: their rows. -/
namespace Go.Proofs.YtaidkmnbjbnciaaGreatDoor
set_option linter.unusedVariables false
set_option linter.unusedSimpArgs false
open Go.RowKit

theorem Sl.rowS {w : World} {A : Option Addr} {n c : Nat} {e : TypeId} {xs : List Value} (h : Sl w e 1 (.slice A n c) xs) (hn : 0 < n) : ∃ g off, A = some ⟨g, off, none⟩ ∧ RowAt w e g off xs := by
 obtain ⟨A', n', c', hf, _, _, hl, hr⟩ := h
 injection hf with h1 h2 _
 subst h1 h2
 exact hr hn

end Go.Proofs.YtaidkmnbjbnciaaGreatDoor

/- Quoted strings and digests: the plain facts. -/
namespace Go.Proofs.YtaidkmnbjbnciaaGreatDoor
set_option linter.unusedVariables false
set_option linter.unusedSimpArgs false

end Go.Proofs.YtaidkmnbjbnciaaGreatDoor
