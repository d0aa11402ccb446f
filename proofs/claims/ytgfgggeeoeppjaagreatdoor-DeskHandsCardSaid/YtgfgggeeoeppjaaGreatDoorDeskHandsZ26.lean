/- Texts of the proof of DeskHands, put together: LayG, DecB, GenA, GenB, GenC, GenD, ItId. -/
import Derived.Test.YtgfgggeeoeppjaaGreatDoorDeskHandsZ7
import Derived.Test.YtgfgggeeoeppjaaGreatDoorDeskHandsZ10
import Derived.Test.YtgfgggeeoeppjaaGreatDoorDeskHandsZ11
import Derived.Test.YtgfgggeeoeppjaaGreatDoorDeskHandsZ14
import Derived.Test.YtgfgggeeoeppjaaGreatDoorDeskHandsZ24
import Derived.Deep.AppendLies
import Derived.Deep.DeepCutAuto
import Derived.Deep.CutBlock
set_option linter.unusedVariables false
set_option linter.unusedSimpArgs false
/- The rules that values break: program and reference. -/
namespace Go.Proofs.YtgfgggeeoeppjaaGreatDoor
open Go.RowKit
end Go.Proofs.YtgfgggeeoeppjaaGreatDoor
/- One decision's errors: decisionError of the program. -/
namespace Go.Proofs.YtgfgggeeoeppjaaGreatDoor
open Go.RowKit
end Go.Proofs.YtgfgggeeoeppjaaGreatDoor
/- The generators of layouts: what they hold. -/
namespace Go.Proofs.YtgfgggeeoeppjaaGreatDoor
open Go.RowKit
def AskT (W : World) (b : Nat) (al : List AskR) : Prop := ∀ x ∈ al, Sl W 9 1 (.slice x.A x.ch.length x.c) (strsV x.ch) ∧ ∀ g, (Value.slice x.A x.ch.length x.c).ownBlock = some g → g ≠ b
def LgQ (W : World) (b bw gl : Nat) (va u vr : Value) (al : List AskR) (rs : List RulR) : Prop :=
 b < bw ∧ bw ≤ gl ∧ gl < W.heap.size ∧ Blk W gl 97 #[va, u] ∧ W.ownsRow bw 167 4 va al.length (askV al) ∧ AskT W b al ∧ W.ownsRow bw 171 5 vr rs.length (rulV rs)
section
variable {W W' : World} {b bw gl n5 : Nat} {va va5 u vr v5 : Value} {al al5 : List AskR} {rs rs5 : List RulR}
theorem AskT.ask (h : AskT W b al) (hm : Mod (· = b) W W') : AskT W' b al := fun x hx => ⟨(h x hx).1.mod_ob hm (fun g hg => (h x hx).2 g hg), (h x hx).2⟩
theorem AskT.ty {S : Nat → Prop} (h : AskT W b al) (hm : Mod S W W') (hs : ∀ g arr fr, W.heap[g]? = some (.cells arr 9 fr) → ¬ S g) : AskT W' b al := fun x hx => ⟨(h x hx).1.mod hm hs, (h x hx).2⟩
theorem blk_ty {g k : Nat} {t t' : TypeId} {cs arr : Array Value} {fr : Nat × Nat} (h : Blk W g t cs) (hk : W.heap[k]? = some (.cells arr t' fr)) (hne : t ≠ t') : ¬ k = g := fun e => by
 subst e;unfold Blk at h;rw [h] at hk
 injection hk with hk
 injection hk with _ h2 _
 exact hne h2
theorem LgQ.ask (h : LgQ W b bw gl va u vr al rs) (hm : Mod (· = b) W W') : LgQ W' b bw gl va u vr al rs := by
 obtain ⟨h1, h2, h3, hB, ho, ht, hr⟩ := h;exact ⟨h1, h2, Nat.lt_of_lt_of_le h3 hm.size, hB.mod hm (by omega), own_mod ho hm (fun i hi => by have := own_block ho i hi; omega), ht.ask hm, own_mod hr hm (fun i hi => by have := own_block hr i hi; omega)⟩
end
end Go.Proofs.YtgfgggeeoeppjaaGreatDoor
/- The generator of right layouts. -/
namespace Go.Proofs.YtgfgggeeoeppjaaGreatDoor
open Go.RowKit
theorem LgQ.far {W W' : World} {b bw gl g : Nat} {va u vr : Value} {al : List AskR} {rs : List RulR} {cs : Array Value} (h : LgQ W b bw gl va u vr al rs) (hm : Mod (· = g) W W') (h1 : gl ≠ g) (h2 : ∀ i, va.ownBlock = some i → i ≠ g) (h3 : ∀ i, vr.ownBlock = some i → i ≠ g) (hX : Blk W g 171 cs) : LgQ W' b bw gl va u vr al rs := by
 obtain ⟨q1, q2, q3, hB, ho, ht, hr⟩ := h;exact ⟨q1, q2, Nat.lt_of_lt_of_le q3 hm.size, hB.mod hm h1, own_mod ho hm (fun i hi => h2 i hi), ht.ty hm (fun k arr fr hk => blk_ty hX hk (by decide)), own_mod hr hm (fun i hi => h3 i hi)⟩
end Go.Proofs.YtgfgggeeoeppjaaGreatDoor
/- The generator of layouts. -/
namespace Go.Proofs.YtgfgggeeoeppjaaGreatDoor
open Go.RowKit
def LfF (W : World) (gl gr : Nat) : Prop := gr ≠ gl ∧ gl < W.heap.size ∧ ∃ (A A2 : Option Addr) (n c n2 c2 : Nat) (L : LayR), Blk W gl 97 #[.slice A n c, .slice A2 n2 c2] ∧ Blk W gr 97 #[.slice none 0 0, .slice none 0 0] ∧ LayV W L (.agg #[.slice A n c, .slice A2 n2 c2]) ∧ L.asks.length ≤ 3 ∧ L.rules.length ≤ 3 ∧ (∀ a ∈ L.asks, AskM 4 3 a) ∧ ∀ r ∈ L.rules, RulB r
section
variable {W W' : World} {b bw gl gr n c n2 c2 : Nat} {va u vr : Value} {A A2 : Option Addr} {al : List AskR} {rs : List RulR}
theorem LgQ.fin (h : LgQ W b bw gl (.slice A n c) (.slice A2 n2 c2) (.slice A2 n2 c2) al rs) (hG : Blk W gr 97 #[.slice none 0 0, .slice none 0 0]) (hne : gr ≠ gl) (h1 : al.length ≤ 3) (h2 : rs.length ≤ 3) (h3 : ∀ a ∈ al, AskM 4 3 a) (h4 : ∀ r ∈ rs, RulB r) : LfF W gl gr := by
 obtain ⟨q1, q2, q3, hB, ho, ht, hr⟩ := h;exact ⟨hne, q3, A, A2, n, c, n2, c2, ⟨al, rs⟩, hB, hG, ⟨A, n, c, A2, n2, c2, rfl, ⟨Sl.of_own ho, fun x hx => (ht x hx).1⟩, Sl.of_own hr⟩, h1, h2, h3, h4⟩
theorem AskT.nilS (W : World) : Sl W 9 1 (.slice none 0 0) (strsV []) := Sl.nil_
end
def LgEx (W : World) (b bw gl : Nat) (va : Value) (al : List AskR) (rs : List RulR) : Prop := ∃ (g5 c5 : Nat) (r : RulR), RulB r ∧ LgQ W b bw gl va (.slice (some ⟨g5, 0, none⟩) (rs.length + 1) c5) (.slice (some ⟨g5, 0, none⟩) (rs.length + 1) c5) al (rs ++ [r])
theorem LgEx.ask {W W' : World} {b bw gl : Nat} {va : Value} {al : List AskR} {rs : List RulR} (h : LgEx W b bw gl va al rs) (hm : Mod (· = b) W W') : LgEx W' b bw gl va al rs := by
 obtain ⟨g5, c5, r, h1, h2⟩ := h;exact ⟨g5, c5, r, h1, h2.ask hm⟩
end Go.Proofs.YtgfgggeeoeppjaaGreatDoor
/- The generator of values. -/
namespace Go.Proofs.YtgfgggeeoeppjaaGreatDoor
open Go.RowKit
def ChT (W : World) (b bl : Nat) (cs : List ChoR) : Prop := ∀ x ∈ cs, Sl W 9 1 (.slice x.A x.ch.length x.c) (strsV x.ch) ∧ ∀ g, (Value.slice x.A x.ch.length x.c).ownBlock = some g → g ≠ b ∧ g < bl
section
variable {W W' : World} {b bl bl' : Nat} {cs : List ChoR}
theorem ChT.mod {S : Nat → Prop} (h : ChT W b bl cs) (hm : Mod S W W') (hs : ∀ g, g ≠ b → g < bl → ¬ S g) : ChT W' b bl cs := fun x hx => ⟨(h x hx).1.mod_ob hm (fun g hg => hs g ((h x hx).2 g hg).1 ((h x hx).2 g hg).2), (h x hx).2⟩
theorem ChT.ask (h : ChT W b bl cs) (hm : Mod (· = b) W W') : ChT W' b bl cs := h.mod hm (fun g hg _ => hg)
theorem ChT.up (h : ChT W b bl cs) (hb : bl ≤ bl') : ChT W b bl' cs := fun x hx => ⟨(h x hx).1, fun g hg => ⟨((h x hx).2 g hg).1, Nat.lt_of_lt_of_le ((h x hx).2 g hg).2 hb⟩⟩
end
section
variable {W W' : World} {b base bl bl' n5 : Nat} {vo v5 : Value} {cs cs5 : List ChoR}
end
end Go.Proofs.YtgfgggeeoeppjaaGreatDoor
/- The ids of items that the generators make. -/
namespace Go.Proofs.YtgfgggeeoeppjaaGreatDoor
open Go.RowKit
end Go.Proofs.YtgfgggeeoeppjaaGreatDoor
