/- Texts of the proof of QueryPrints, put together: RegG. -/
import Derived.Test.YtnfflgicngeekaaGreatDoorQueryPrintsZ2
import Derived.Test.YtnfflgicngeekaaGreatDoorQueryPrintsZ9
/- Regions of calls that ask the stream: the words for their invariant. -/
namespace Go.Proofs.YtnfflgicngeekaaGreatDoor
set_option linter.unusedVariables false
set_option linter.unusedSimpArgs false
open Go.RowKit

/-- v is a new slice over the whole block cs. -/
def IsSl (B : Nat) (t : TypeId) (cs : Array Value) (v : Value) (w : World) : Prop := ∃ g, v = .slice (some ⟨g, 0, none⟩) cs.size cs.size ∧ B ≤ g ∧ Blk w g t cs
/-- v points at a new block. -/
def IsPtr (B : Nat) (t : TypeId) (q : Array Value → Prop) (v : Value) (w : World) : Prop := ∃ g cs, v = .pointer (some ⟨g, 0, none⟩) ∧ B ≤ g ∧ q cs ∧ Blk w g t cs
theorem IsSl.mod {B b : Nat} {t : TypeId} {cs : Array Value} (hb : b < B) (v : Value) (w w' : World) (h : IsSl B t cs v w) (hm : Mod (· = b) w w') : IsSl B t cs v w' := by
 obtain ⟨g, rfl, hg, h⟩ := h
 exact ⟨g, rfl, hg, h.modb hm (by omega)⟩
theorem IsPtr.mod {B b : Nat} {t : TypeId} {q : Array Value → Prop} (hb : b < B) (v : Value) (w w' : World) (h : IsPtr B t q v w) (hm : Mod (· = b) w w') : IsPtr B t q v w' := by
 obtain ⟨g, cs, rfl, hg, hq, h⟩ := h
 exact ⟨g, cs, rfl, hg, hq, h.modb hm (by omega)⟩
def Fact.sl {B b : Nat} (hb : b < B) (t : TypeId) (cs : Array Value) : Fact (Mod (· = b)) := ⟨IsSl B t cs, IsSl.mod hb, none, none⟩
def Fact.ptr {B b : Nat} (hb : b < B) (t : TypeId) (q : Array Value → Prop) : Fact (Mod (· = b)) := ⟨IsPtr B t q, IsPtr.mod hb, none, none⟩
theorem IsSl.new {B : Nat} (w : World) (t : TypeId) (cs : Array Value) (n : Nat) (hn : n = cs.size) (hB : B ≤ w.heap.size) : IsSl B t cs (.slice (some ⟨w.heap.size, 0, none⟩) n n) (w.alloc (.cells cs t)) := by
 subst hn
 exact ⟨_, rfl, hB, Blk.new _ _ _⟩
theorem IsPtr.new {B : Nat} (w : World) (t : TypeId) (cs : Array Value) (q : Array Value → Prop) (hq : q cs) (hB : B ≤ w.heap.size) : IsPtr B t q (.pointer (some ⟨w.heap.size, 0, none⟩)) (w.alloc (.cells cs t)) := ⟨_, cs, rfl, hB, hq, Blk.new _ _ _⟩

/-- The world of a region that asks the stream at b: asked N + c D times at most; only blocks in S, and what is new, have changed since W0; it has B blocks at least; G holds. -/
structure GB (W0 : World) (S : Nat → Prop) (B b N : Nat) (c : (Nat → Bool) → Nat) (G : (Nat → Bool) → World → Prop) (D : Nat → Bool) (w : World) : Prop where
 strm : Strm w b (N + c D)
 mod : Mod S W0 w
 big : B ≤ w.heap.size
 g : G D w
section
variable {W0 : World} {S : Nat → Prop} {B b N : Nat} {c : (Nat → Bool) → Nat} {G : (Nat → Bool) → World → Prop} {D : Nat → Bool} {w w' : World} {i k : Nat}
theorem GB.start (h : Strm w b N) (hM : Mod S W0 w) (hB : B ≤ w.heap.size) (hG : G (fun _ => false) w.drew) : GB W0 S B b N c G (fun _ => false) w.drew :=
 ⟨h.drew.more (Nat.le_add_right _ _), hM.drew, hB, hG⟩
/-- A step that asks nothing. -/
theorem GB.quiet (h : GB W0 S B b N c G D w) (hm : Pure w w') (hc : c D ≤ c (upd D i true)) (hG : G (upd D i true) w') : GB W0 S B b N c G (upd D i true) w' :=
 ⟨(h.strm.pure hm).more (by omega), h.mod.transp hm, Nat.le_trans h.big hm.size, hG⟩
theorem GB.asks (h : GB W0 S B b N c G D w) (hSb : ∀ j, j = b → j < W0.heap.size → S j) (hS : Strm w' b (N + c D + k)) (hm : Mod (· = b) w w') (hc : c D + k ≤ c (upd D i true)) (hG : G (upd D i true) w') : GB W0 S B b N c G (upd D i true) w' :=
 ⟨hS.more (by omega), h.mod.trans' hm hSb, Nat.le_trans h.big hm.size, hG⟩
/-- A step that writes the blocks of T: none of them the stream's, or its list's. -/
theorem GB.writes {T : Nat → Prop} (h : GB W0 S B b N c G D w) (hT : ∀ j, T j → b < j) (hTS : ∀ j, T j → j < W0.heap.size → S j) (hm : Mod T w w') (hc : c D ≤ c (upd D i true)) (hG : G (upd D i true) w') : GB W0 S B b N c G (upd D i true) w' :=
 ⟨(h.strm.mod hm (fun j hj ht => by have := hT j ht; omega)).more (by omega), h.mod.trans' hm hTS, Nat.le_trans h.big hm.size, hG⟩
end
/-- The world of a region that asks nothing. -/
structure PB (W0 : World) (S : Nat → Prop) (B : Nat) (G : (Nat → Bool) → World → Prop) (D : Nat → Bool) (w : World) : Prop where
 mod : Mod S W0 w
 big : B ≤ w.heap.size
 g : G D w
section
variable {W0 : World} {S : Nat → Prop} {B : Nat} {G : (Nat → Bool) → World → Prop} {D : Nat → Bool} {w w' : World} {i : Nat}
theorem PB.start (hM : Mod S W0 w) (hB : B ≤ w.heap.size) (hG : G (fun _ => false) w.drew) : PB W0 S B G (fun _ => false) w.drew := ⟨hM.drew, hB, hG⟩
theorem PB.quiet (h : PB W0 S B G D w) (hm : Pure w w') (hG : G (upd D i true) w') : PB W0 S B G (upd D i true) w' := ⟨h.mod.transp hm, Nat.le_trans h.big hm.size, hG⟩
theorem PB.writes {T : Nat → Prop} (h : PB W0 S B G D w) (hTS : ∀ j, T j → j < W0.heap.size → S j) (hm : Mod T w w') (hG : G (upd D i true) w') : PB W0 S B G (upd D i true) w' := ⟨h.mod.trans' hm hTS, Nat.le_trans h.big hm.size, hG⟩
end
/-- No block is changed, no draw is taken back. -/
def ModD (w w' : World) : Prop := Pure w w' ∧ w.drawn ≤ w'.drawn
theorem ModD.refl (w : World) : ModD w w := ⟨Mod.refl _ _, Nat.le_refl _⟩
theorem ModD.alloc (w : World) (o : Obj) : ModD w (w.alloc o) := ⟨(Mod.refl _ _).alloc o, Nat.le_refl _⟩
theorem ModD.trans {a b c : World} (h : ModD a b) (k : ModD b c) : ModD a c := ⟨h.1.trans k.1, Nat.le_trans h.2 k.2⟩
theorem pure_alloc (w : World) (o : Obj) : Pure w (w.alloc o) := (Mod.refl _ _).alloc o
/-- An append changes the row's own block alone. -/
theorem mod_grown {w w' : World} {row : Option Nat} (h : w.grownBy w' row) : Mod (fun k => row = some k) w w' := (Mod.refl _ _).grown h (fun k hk => .inl hk)

end Go.Proofs.YtnfflgicngeekaaGreatDoor
