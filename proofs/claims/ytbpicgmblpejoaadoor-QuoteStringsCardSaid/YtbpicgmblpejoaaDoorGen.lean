/- Helpers that serve at any world: chains of facts over new blocks, draws, stores and calls. -/
import Derived.Test.YtbpicgmblpejoaaDoorPicks
namespace Go.Proofs.YtbpicgmblpejoaaDoor
set_option linter.unusedVariables false
set_option linter.unusedSimpArgs false
open Go.RowKit

section
variable {w w' : World} {g b i N : Nat} {t : TypeId} {cs : Array Value} {v : Value} {p : Addr} {S : Nat → Prop} {P : Prop}
theorem Blk.new' {k : Nat} (h : k = w.heap.size) : Blk (w.alloc (.cells cs t)) k t cs := by subst h; exact Blk.new _ _ _
theorem Blk.snd (w : World) (o : Obj) (t : TypeId) (cs : Array Value) : Blk ((w.alloc o).alloc (.cells cs t)) (w.heap.size + 1) t cs := by
  have := Blk.new (w.alloc o) t cs
  rw [World.size_alloc] at this
  exact this
theorem Blk.thd (w : World) (o o' : Obj) (t : TypeId) (cs : Array Value) : Blk (((w.alloc o).alloc o').alloc (.cells cs t)) (w.heap.size + 1 + 1) t cs := by
  have := Blk.new ((w.alloc o).alloc o') t cs
  rw [World.size_alloc, World.size_alloc] at this
  exact this
theorem Blk.modb (h : Blk w g t cs) (hb : Mod (· = b) w w') (hg : g ≠ b) : Blk w' g t cs := h.mod hb hg
theorem Blk.modp (h : Blk w g t cs) (hb : Pure w w') : Blk w' g t cs := h.mod hb id
theorem Blk.useb (h : Blk w g t cs) (hb : Mod (· = b) w w') (hg : g ≠ b) (k : Blk w' g t cs → P) : P := k (h.mod hb hg)
theorem Blk.usep (h : Blk w g t cs) (hb : Pure w w') (k : Blk w' g t cs → P) : P := k (h.mod hb id)
theorem Blk.set2 {a b x y : Value} (h : Blk w g t #[a, b]) : Blk ((w.setCell ⟨g, 0, none⟩ x).setCell ⟨g, 1, none⟩ y) g t #[x, y] := by
  have := (h.set 0 x).set 1 y
  simpa using this
theorem Blk.set3 {a b c x y z : Value} (h : Blk w g t #[a, b, c]) : Blk (((w.setCell ⟨g, 0, none⟩ x).setCell ⟨g, 1, none⟩ y).setCell ⟨g, 2, none⟩ z) g t #[x, y, z] := by
  have := ((h.set 0 x).set 1 y).set 2 z
  simpa using this
theorem Blk.set4 {a b c d x y z u : Value} (h : Blk w g t #[a, b, c, d]) : Blk ((((w.setCell ⟨g, 0, none⟩ x).setCell ⟨g, 1, none⟩ y).setCell ⟨g, 2, none⟩ z).setCell ⟨g, 3, none⟩ u) g t #[x, y, z, u] := by
  have := (((h.set 0 x).set 1 y).set 2 z).set 3 u
  simpa using this
theorem cell_alloc (h : w.cell? p = some v) (o : Obj) : (w.alloc o).cell? p = some v := (World.cell?_alloc_lt w _ _ (lt_of_cell h)).trans h
theorem cell_drew (h : w.cell? p = some v) : w.drew.cell? p = some v := h
theorem cell_drewN (h : w.cell? p = some v) (n : Nat) : (w.drewN n).cell? p = some v := h
theorem cell_far {q : Addr} {u : Value} (h : w.cell? p = some v) (hq : q.block ≠ p.block) : (w.setCell q u).cell? p = some v := (World.cell?_setCell_far w q p u hq).trans h
theorem q_farc {q j : Nat} {u : Value} (hq : q ≠ g) (h : w.cell? ⟨g, i, none⟩ = some v) : (w.setCell ⟨q, j, none⟩ u).cell? ⟨g, i, none⟩ = some v := cell_far h hq
theorem keepb (h : w.cell? ⟨g, i, none⟩ = some v) (hm : Mod (· = b) w w') (hs : g ≠ b) : w'.cell? ⟨g, i, none⟩ = some v := hm.keep h hs
theorem keepp (h : w.cell? p = some v) (hm : Pure w w') : w'.cell? p = some v := hm.keep h id
theorem Mod.transp {a c d : World} (h : Mod S a c) (k : Pure c d) : Mod S a d := h.trans (Mod.of_pure k)
theorem Strm.modb (h : Strm w b N) (hm : Pure w w') : Strm w' b N := h.pure hm
end

section
variable {w w' : World} {g b i N : Nat} {t : TypeId} {cs : Array Value} {v : Value} {p : Addr} {S : Nat → Prop} {P : Prop}
theorem Blk.q_modb (hb : Mod (· = b) w w') (hg : g ≠ b) (h : Blk w g t cs) : Blk w' g t cs := h.mod hb hg
theorem Blk.q_modp (hb : Pure w w') (h : Blk w g t cs) : Blk w' g t cs := h.mod hb id
theorem Blk.q_far (hp : g ≠ p.block) (h : Blk w g t cs) (u : Value) : Blk (w.setCell p u) g t cs := h.far hp u
theorem q_far {q : Addr} {u : Value} (hq : q.block ≠ p.block) (h : w.cell? p = some v) : (w.setCell q u).cell? p = some v := cell_far h hq
theorem q_keepb (hm : Mod (· = b) w w') (hs : g ≠ b) (h : w.cell? ⟨g, i, none⟩ = some v) : w'.cell? ⟨g, i, none⟩ = some v := hm.keep h hs
theorem q_keepp (hm : Pure w w') (h : w.cell? p = some v) : w'.cell? p = some v := hm.keep h id
theorem Mod.q_trans {a c d : World} (k : Mod S c d) (h : Mod S a c) : Mod S a d := h.trans k
theorem Mod.q_transp {a c d : World} (k : Pure c d) (h : Mod S a c) : Mod S a d := h.trans (Mod.of_pure k)
theorem Mod.q_set {a w : World} {p : Addr} (hp : a.heap.size ≤ p.block) (h : Mod S a w) (u : Value) : Mod S a (w.setCell p u) := h.setCell (.inr hp) u
theorem Strm.q_pure (hm : Pure w w') (h : Strm w b N) : Strm w' b N := h.pure hm
theorem Strm.q_set (hp : b < p.block) (h : Strm w b N) (u : Value) : Strm (w.setCell p u) b N := h.setCell hp u
end

/-- A store into a block of another element type. -/
theorem Sl.set_ne {w : World} {e t : TypeId} {size g j : Nat} {v : Value} {xs : List Value} {cs : Array Value} (h : Sl w e size v xs) (hb : Blk w g t cs) (hne : e ≠ t) (u : Value) : Sl (w.setCell ⟨g, j, none⟩ u) e size v xs := by
  refine h.mod (S := fun i => i = g) (Mod.setCell (S := fun i => i = g) (p := ⟨g, j, none⟩) (Mod.refl _ _) (.inl rfl) u) (fun g' arr fr hh hg => ?_)
  subst hg
  unfold Blk at hb
  rw [hh] at hb
  injection hb with hb
  injection hb with _ ht
  exact hne ht
/-- The numbers of a list of cells. -/
def intsOf (cs : Array Value) : List Int := cs.toList.map intOf
def PickV (w : World) (b N : Nat) (cs : Array Value) (e : Ending) (w' : World) : Prop :=
  ∃ k : Int, k ∈ intsOf cs ∧ e = .returned (.int .i64 k) ∧ Strm w' b (N + 1) ∧ Mod (· = b) w w'
theorem pickv_calls (w : World) (b N g c n : Nat) (cs : Array Value) (hS : Strm w b N) (hx : Blk w g 3 cs) (hN : N ≤ 1000000000) (hgb : g ≠ b) (hn : n = (intsOf cs).length) (h0 : 0 < n) (hl : n ≤ 1000) (hi : cs = (ints (intsOf cs)).toArray) :
    Calls Tryd.prog 9 #[.pointer (some ⟨b, 0, none⟩), .slice (some ⟨g, 0, none⟩) n c] w (PickV w b N cs) := by
  subst hn
  rw [hi] at hx
  exact pick_calls w b N g c (intsOf cs) hS hN hx hgb h0 hl

end Go.Proofs.YtbpicgmblpejoaaDoor
