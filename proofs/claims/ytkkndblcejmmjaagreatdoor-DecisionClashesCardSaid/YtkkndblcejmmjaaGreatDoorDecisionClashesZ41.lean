/- Texts of the proof of DecisionClashes, put together: CodW. -/
import Derived.Test.YtkkndblcejmmjaaGreatDoorDecisionClashesZ28
import Derived.Test.YtkkndblcejmmjaaGreatDoorDecisionClashesZ29
import Derived.Test.YtkkndblcejmmjaaGreatDoorDecisionClashesZ39
/- Codings in memory; sameCoding of the law, slices.EqualFunc of codings. -/
namespace Go.Proofs.YtkkndblcejmmjaaGreatDoor
set_option linter.unusedVariables false
set_option linter.unusedSimpArgs false
open Go.RowKit

def cdC (x : CodR) : List Value := [.string ⟨x.item.toArray⟩, .slice x.A x.vals.length x.c]
def cdV (xs : List CodR) : List Value := xs.flatMap cdC
theorem cdV_len : ∀ xs : List CodR, (cdV xs).length = xs.length * 2
 | [] => rfl
 | x :: t => by
  show (cdC x ++ cdV t).length = _
  rw [List.length_append, cdV_len t]
  simp [cdC]; omega
theorem cdV_get : ∀ (xs : List CodR) (i : Nat) (h : i < xs.length), (cdV xs)[i * 2]? = some (.string ⟨xs[i].item.toArray⟩) ∧ (cdV xs)[i * 2 + 1]? = some (.slice xs[i].A xs[i].vals.length xs[i].c)
 | x :: t, 0, _ => ⟨rfl, rfl⟩
 | x :: t, i + 1, h => by
  have ih := cdV_get t i (by simpa using h)
  have e : cdV (x :: t) = cdC x ++ cdV t := rfl
  have hs : ∀ j, (cdV (x :: t))[(i + 1) * 2 + j]? = (cdV t)[i * 2 + j]? := fun j => by
   rw [e, List.getElem?_append_right (by simp [cdC]; omega)]
   congr 1
   simp [cdC]; omega
  exact ⟨(hs 0).trans ih.1, (hs 1).trans ih.2⟩
theorem cdV_snoc (xs : List CodR) (p : CodR) : cdV (xs ++ [p]) = cdV xs ++ cdC p := by simp [cdV]
def CodS (W : World) (xs : List CodR) : Prop := ∀ x ∈ xs, Vals W (.slice x.A x.vals.length x.c) x.vals
def Cods (W : World) (v : Value) (xs : List CodR) : Prop := Sl W 69 2 v (cdV xs) ∧ CodS W xs
def CodEl (W : World) (x : CodR) : Prop := Vals W (.slice x.A x.vals.length x.c) x.vals
theorem CodEl.pure {x : CodR} {w w' : World} (h : CodEl w x) (hm : Pure w w') : CodEl w' x := Vals.pure h hm
theorem CodS.pure {xs : List CodR} {w w' : World} (h : CodS w xs) (hm : Pure w w') : CodS w' xs := fun x hx => (h x hx).pure hm
theorem Cods.pure {xs : List CodR} {w w' : World} {v : Value} (h : Cods w v xs) (hm : Pure w w') : Cods w' v xs := ⟨h.1.pure hm, h.2.pure hm⟩
theorem Cods.el {w : World} {v : Value} {xs : List CodR} (h : Cods w v xs) {k : Nat} (hk : k < xs.length) : CodEl w xs[k] := h.2 _ (List.getElem_mem hk)
theorem Cods.len {w : World} {A : Option Addr} {n c : Nat} {xs : List CodR} (h : Cods w (.slice A n c) xs) : xs.length = n := by
 obtain ⟨⟨A', n', c', e, _, _, hl, _⟩, _⟩ := h
 injection e with _ e2 _
 rw [cdV_len] at hl
 omega
theorem Cods.cells {w : World} {A : Option Addr} {n c : Nat} {xs : List CodR} (h : Cods w (.slice A n c) xs) {k : Nat} (hk : k < xs.length) : ∃ g off, A = some ⟨g, off, none⟩ ∧ w.cell? ⟨g, off + k * 2, none⟩ = some (.string ⟨xs[k].item.toArray⟩) ∧
  w.cell? ⟨g, off + k * 2 + 1, none⟩ = some (.slice xs[k].A xs[k].vals.length xs[k].c) := by
 have hl := h.len
 obtain ⟨⟨A', n', c', e, _, _, _, hr⟩, _⟩ := h
 injection e with e1 e2 e3
 subst e1 e2
 obtain ⟨g, off, rfl, hrow⟩ := hr (by omega)
 obtain ⟨h0, h1⟩ := cdV_get xs k hk
 refine ⟨g, off, rfl, hrow.cell h0, ?_⟩
 have := hrow.cell h1; rwa [← Nat.add_assoc] at this
theorem CodS.mod {w w' : World} {S : Nat → Prop} {xs : List CodR} (h : CodS w xs) (hm : Mod S w w') (h1 : ∀ g arr fr, w.heap[g]? = some (.cells arr 105 fr) → ¬ S g) (h2 : ∀ g arr fr, w.heap[g]? = some (.cells arr 9 fr) → ¬ S g) : CodS w' xs := fun x hx => (h x hx).mod hm h1 h2
theorem CodS.snoc {w : World} {xs : List CodR} {x : CodR} (h : CodS w xs) (hx : Vals w (.slice x.A x.vals.length x.c) x.vals) : CodS w (xs ++ [x]) := fun y hy => by
 rcases List.mem_append.1 hy with hy | hy
 ·exact h y hy
 ·rw [List.mem_singleton.1 hy]; exact hx
/-- Own codings. -/
def CdOk (w : World) (base : Nat) (A : Option Addr) (c : Nat) (xs ys : List CodR) : Prop := w.ownsRow base 69 2 (.slice A xs.length c) xs.length (cdV xs) ∧ CodS w xs ∧ likesC xs ys
theorem CdOk.pure {w w' : World} {base c : Nat} {A : Option Addr} {xs ys : List CodR} (h : CdOk w base A c xs ys) (hm : Pure w w') : CdOk w' base A c xs ys := ⟨own_pure h.1 hm, h.2.1.pure hm, h.2.2⟩
theorem CdOk.app {w w' : World} {base n' c c5 : Nat} {A A5 : Option Addr} {xs ys : List CodR} {x y : CodR} (h : CdOk w base A c xs ys) (hx : Vals w (.slice x.A x.vals.length x.c) x.vals) (hxy : x.key = y.key) (hm : Mod (fun j => (Value.slice A xs.length c).ownBlock = some j) w w') (hn : n' = xs.length + 1)
  (hown : w'.ownsRow base 69 2 (.slice A5 n' c5) n' (cdV xs ++ cdC x)) : CdOk w' base A5 c5 (xs ++ [x]) (ys ++ [y]) := by
 have hty1 : ∀ i arr fr, w.heap[i]? = some (.cells arr 105 fr) → ¬ (Value.slice A xs.length c).ownBlock = some i := fun i arr fr hi hv => absurd (own_ty h.1 hv hi) (by decide)
 have hty2 : ∀ i arr fr, w.heap[i]? = some (.cells arr 9 fr) → ¬ (Value.slice A xs.length c).ownBlock = some i := fun i arr fr hi hv => absurd (own_ty h.1 hv hi) (by decide)
 subst hn
 exact ⟨by simpa [cdV_snoc] using hown, CodS.snoc (h.2.1.mod hm hty1 hty2) (hx.mod hm hty1 hty2), h.2.2.snoc hxy⟩

end Go.Proofs.YtkkndblcejmmjaaGreatDoor
