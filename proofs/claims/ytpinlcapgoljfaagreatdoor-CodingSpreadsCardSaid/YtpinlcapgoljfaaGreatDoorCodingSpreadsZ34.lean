/- Texts of the proof of CodingSpreads, put together: DecE. -/
import Derived.Test.YtpinlcapgoljfaaGreatDoorCodingSpreadsZ11
import Derived.Test.YtpinlcapgoljfaaGreatDoorCodingSpreadsZ17
import Derived.Test.YtpinlcapgoljfaaGreatDoorCodingSpreadsZ26
import Derived.Test.YtpinlcapgoljfaaGreatDoorCodingSpreadsZ31
set_option linter.unusedVariables false
set_option linter.unusedSimpArgs false
/- Decisions of their own: values and copied of the program. -/
namespace Go.Proofs.YtpinlcapgoljfaaGreatDoor
open Go.RowKit

theorem likes.snoc {xs ys : List ChoR} {x y : ChoR} (h : likes xs ys) (h1 : x.field = y.field) (h2 : x.ch = y.ch) : likes (xs ++ [x]) (ys ++ [y]) := by
 unfold likes at h ⊢;rw [List.map_append, List.map_append, h, List.map_cons, List.map_cons, h1, h2]
theorem likes.tr {xs ys zs : List ChoR} (h : likes xs ys) (k : likes ys zs) : likes xs zs := Eq.trans h k
/-- The slices of choices behind a step that writes blocks of another type, or none. -/
theorem ChoS.mod {w w' : World} {S : Nat → Prop} {cs : List ChoR} (h : ChoS w cs) (hm : Mod S w w') (hs : ∀ g arr fr, w.heap[g]? = some (.cells arr 9 fr) → ¬ S g) : ChoS w' cs := fun x hx => (h x hx).mod hm hs
theorem ChoS.snoc {w : World} {cs : List ChoR} {x : ChoR} (h : ChoS w cs) (hx : Sl w 9 1 (.slice x.A x.ch.length x.c) (strsV x.ch)) : ChoS w (cs ++ [x]) := fun y hy => by
 rcases List.mem_append.1 hy with hy | hy
 ·exact h y hy
 ·rw [List.mem_singleton.1 hy]; exact hx
/-- Values of their own, like cs. -/
def VcOk (w : World) (base : Nat) (A : Option Addr) (c : Nat) (cs' cs : List ChoR) : Prop := w.ownsRow base 125 2 (.slice A cs'.length c) cs'.length (choV cs') ∧ ChoS w cs' ∧ likes cs' cs
theorem VcOk.pure {w w' : World} {base c : Nat} {A : Option Addr} {cs' cs : List ChoR} (h : VcOk w base A c cs' cs) (hm : Pure w w') : VcOk w' base A c cs' cs := ⟨own_pure h.1 hm, h.2.1.pure hm, h.2.2⟩
/-- One more choice is appended. -/
theorem VcOk.app {w w' : World} {base c c5 n' : Nat} {A A5 : Option Addr} {cs' cs : List ChoR} {x y : ChoR} (h : VcOk w base A c cs' cs) (hm : Mod (fun j => (Value.slice A cs'.length c).ownBlock = some j) w w') (hx : Sl w 9 1 (.slice x.A x.ch.length x.c) (strsV x.ch)) (h1 : x.field = y.field) (h2 : x.ch = y.ch)
  (hn : n' = cs'.length + 1) (hown : w'.ownsRow base 125 2 (.slice A5 n' c5) n' (choV cs' ++ choC x)) : VcOk w' base A5 c5 (cs' ++ [x]) (cs ++ [y]) := by
 have hty : ∀ i arr fr, w.heap[i]? = some (.cells arr 9 fr) → ¬ (Value.slice A cs'.length c).ownBlock = some i := fun i arr fr hi hv => absurd (own_ty h.1 hv hi) (by decide);subst hn;exact ⟨by simpa [choV_snoc] using hown, ChoS.snoc (h.2.1.mod hm hty) (hx.mod hm hty), h.2.2.snoc h1 h2⟩
/-- A slice of strings. -/
def SlK (w : World) (v : Value) (xs : List Str) : Prop := Sl w 9 1 v (strsV xs)
theorem SlK.pure {w w' : World} {v : Value} {xs : List Str} (h : SlK w v xs) (hm : Pure w w') : SlK w' v xs := Sl.pure h hm
/-- Decisions but for the places of their slices. -/
def DecR.key (d : DecR) : Int × Int × Str × Str × Bool × List (Str × List Str) := (d.no, d.at_, d.rev, d.item, d.sec, d.vals.map fun x => (x.field, x.ch))
def likesD (xs ys : List DecR) : Prop := xs.map DecR.key = ys.map DecR.key
theorem likesD.len {xs ys : List DecR} (h : likesD xs ys) : xs.length = ys.length := by
 have := congrArg List.length h
 simpa using this
theorem likesD.snoc {xs ys : List DecR} {x y : DecR} (h : likesD xs ys) (h1 : x.key = y.key) : likesD (xs ++ [x]) (ys ++ [y]) := by
 unfold likesD at h ⊢;rw [List.map_append, List.map_append, h, List.map_cons, List.map_cons, h1]
theorem likesD.refl (xs : List DecR) : likesD xs xs := rfl
theorem Vals.mod {w w' : World} {S : Nat → Prop} {v : Value} {cs : List ChoR} (h : Vals w v cs) (hm : Mod S w w') (h1 : ∀ g arr fr, w.heap[g]? = some (.cells arr 125 fr) → ¬ S g) (h2 : ∀ g arr fr, w.heap[g]? = some (.cells arr 9 fr) → ¬ S g) : Vals w' v cs := ⟨Sl.mod h.1 hm h1, h.2.mod hm h2⟩
theorem DecS.mod {w w' : World} {S : Nat → Prop} {ds : List DecR} (h : DecS w ds) (hm : Mod S w w') (h1 : ∀ g arr fr, w.heap[g]? = some (.cells arr 125 fr) → ¬ S g) (h2 : ∀ g arr fr, w.heap[g]? = some (.cells arr 9 fr) → ¬ S g) : DecS w' ds := fun x hx => (h x hx).mod hm h1 h2
theorem DecS.snoc {w : World} {ds : List DecR} {x : DecR} (h : DecS w ds) (hx : Vals w (.slice x.A x.vals.length x.c) x.vals) : DecS w (ds ++ [x]) := fun y hy => by
 rcases List.mem_append.1 hy with hy | hy
 ·exact h y hy
 ·rw [List.mem_singleton.1 hy]; exact hx
theorem DecS.app {w : World} {ds es : List DecR} (h : DecS w ds) (k : DecS w es) : DecS w (ds ++ es) := fun y hy => by
 rcases List.mem_append.1 hy with hy | hy
 ·exact h y hy
 ·exact k y hy
end Go.Proofs.YtpinlcapgoljfaaGreatDoor
