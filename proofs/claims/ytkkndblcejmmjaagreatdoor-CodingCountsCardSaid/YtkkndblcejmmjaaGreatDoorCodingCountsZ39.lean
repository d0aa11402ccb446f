/- Texts of the proof of CodingCounts, put together: DecF, GenE, LawR. -/
import Derived.Test.YtkkndblcejmmjaaGreatDoorCodingCountsZ19
import Derived.Test.YtkkndblcejmmjaaGreatDoorCodingCountsZ30
import Derived.Test.YtkkndblcejmmjaaGreatDoorCodingCountsZ31
import Derived.Test.YtkkndblcejmmjaaGreatDoorCodingCountsZ38
import Derived.Shelf.SlicesE.Clone
/- Decide of the program, DecideOf of the reference; clones of decisions. -/
namespace Go.Proofs.YtkkndblcejmmjaaGreatDoor
set_option linter.unusedVariables false
set_option linter.unusedSimpArgs false
open Go.RowKit Go.Sort Go.Shelf

/-- A slice that is like some decisions. -/
def DecsL (w : World) (v : Value) (ds' DD : List DecR) : Prop := Decs w v ds' ∧ likesD ds' DD
theorem DecsL.pure {w w' : World} {v : Value} {ds' DD : List DecR} (h : DecsL w v ds' DD) (hm : Pure w w') : DecsL w' v ds' DD := ⟨h.1.pure hm, h.2⟩
theorem DcOk.base {w : World} {b1 b2 c : Nat} {A : Option Addr} {ds' ds : List DecR} (h : DcOk w b1 A c ds' ds) (hb : b2 ≤ b1) : DcOk w b2 A c ds' ds := ⟨own_baseK h.1 hb, h.2⟩
theorem likesD.app {xs ys zs us : List DecR} (h : likesD xs ys) (k : likesD zs us) : likesD (xs ++ zs) (ys ++ us) := by
 unfold likesD at h k ⊢
 rw [List.map_append, List.map_append, h, k]
/-- Own decisions, with others behind them. -/
theorem DcOk.app {w w' : World} {base c c5 n' : Nat} {A A5 : Option Addr} {ds' ds es' es : List DecR} (h : DcOk w base A c ds' ds) (k : DecS w es') (hk : likesD es' es) (hm : Mod (fun j => (Value.slice A ds'.length c).ownBlock = some j) w w')
  (hn : n' = ds'.length + es'.length) (hown : w'.ownsRow base 40 6 (.slice A5 n' c5) n' (decV ds' ++ decV es')) : DcOk w' base A5 c5 (ds' ++ es') (ds ++ es) := by
 have hty1 : ∀ i arr fr, w.heap[i]? = some (.cells arr 105 fr) → ¬ (Value.slice A ds'.length c).ownBlock = some i := fun i arr fr hi hv => absurd (own_ty h.1 hv hi) (by decide)
 have hty2 : ∀ i arr fr, w.heap[i]? = some (.cells arr 9 fr) → ¬ (Value.slice A ds'.length c).ownBlock = some i := fun i arr fr hi hv => absurd (own_ty h.1 hv hi) (by decide)
 subst hn
 exact ⟨by simpa [decV] using hown, DecS.app (h.2.1.mod hm hty1 hty2) (k.mod hm hty1 hty2), h.2.2.app hk⟩

/-- A row of one's own of decisions. -/
def OwD (w : World) (base : Nat) (v : Value) (ds : List DecR) : Prop := w.ownsRow base 40 6 v ds.length (decV ds)
theorem OwD.pure {w w' : World} {base : Nat} {v : Value} {ds : List DecR} (h : OwD w base v ds) (hm : Pure w w') : OwD w' base v ds := own_pure h hm
theorem OwD.app {w w' : World} {base n' c5 : Nat} {v : Value} {A5 : Option Addr} {ds : List DecR} {x : DecR} (h : OwD w base v ds) (h1 : DecS w ds) (h2 : DecS w [x]) (hm : Mod (fun j => v.ownBlock = some j) w w') (hn : n' = ds.length + 1)
  (hown : w'.ownsRow base 40 6 (.slice A5 n' c5) n' (decV ds ++ decC x)) : Decs w' (.slice A5 n' c5) (ds ++ [x]) := by
 have hty1 : ∀ i arr fr, w.heap[i]? = some (.cells arr 105 fr) → ¬ v.ownBlock = some i := fun i arr fr hi hv => absurd (own_ty h hv hi) (by decide)
 have hty2 : ∀ i arr fr, w.heap[i]? = some (.cells arr 9 fr) → ¬ v.ownBlock = some i := fun i arr fr hi hv => absurd (own_ty h hv hi) (by decide)
 exact ⟨by rw [decV_snoc]; exact Sl.of_own hown, DecS.app (h1.mod hm hty1 hty2) (h2.mod hm hty1 hty2)⟩

end Go.Proofs.YtkkndblcejmmjaaGreatDoor

/- The generator of decisions. -/
namespace Go.Proofs.YtkkndblcejmmjaaGreatDoor
set_option linter.unusedVariables false
set_option linter.unusedSimpArgs false
open Go.RowKit

/-- A slice with something in it does not lie in block b. -/
def NbS (b : Nat) (v : Value) : Prop := ∀ g off n c, v = .slice (some ⟨g, off, none⟩) n c → 0 < n → g ≠ b
theorem Sl.nb {w : World} {e : TypeId} {size b N : Nat} {v : Value} {xs : List Value} (h : Sl w e size v xs) (hS : Strm w b N) (he : e ≠ 25) : NbS b v := by
 obtain ⟨A, n, c, rfl, _, _, _, h4⟩ := h
 rintro g off n' c' hv hn
 injection hv with h1 h2 h3
 subst h2
 obtain ⟨g2, o2, h5, hr⟩ := h4 hn
 rw [h1] at h5
 injection h5 with h5
 injection h5 with h6
 subst h6
 obtain ⟨_, _, _, _, hBs, _⟩ := hS
 exact hr.ne hBs he
theorem Sl.modNb {w w' : World} {e : TypeId} {size b : Nat} {v : Value} {xs : List Value} (h : Sl w e size v xs) (hn : NbS b v) (hm : Mod (· = b) w w') : Sl w' e size v xs := by
 obtain ⟨A, n, c, rfl, h1, h2, h3, h4⟩ := h
 refine ⟨A, n, c, rfl, h1, h2, h3, fun h0 => ?_⟩
 obtain ⟨g, off, rfl, hr⟩ := h4 h0
 exact ⟨g, off, rfl, hr.mod hm (hn g off n c rfl h0)⟩
/-- Values that do not lie in block b. -/
def VlsB (w : World) (b : Nat) (v : Value) (cs : List ChoR) : Prop := Vals w v cs ∧ NbS b v ∧ ∀ x ∈ cs, NbS b (.slice x.A x.ch.length x.c)
section
variable {w w' : World} {b N g q : Nat} {v u : Value} {cs : List ChoR} {cells : Array Value}
theorem VlsB.of (h : Vals w v cs) (hS : Strm w b N) : VlsB w b v cs := ⟨h, h.1.nb hS (by decide), fun x hx => (h.2 x hx).nb hS (by decide)⟩
theorem VlsB.ask (h : VlsB w b v cs) (hm : Mod (· = b) w w') : VlsB w' b v cs := ⟨⟨h.1.1.modNb h.2.1 hm, fun x hx => (h.1.2 x hx).modNb (h.2.2 x hx) hm⟩, h.2⟩
theorem VlsB.pure (h : VlsB w b v cs) (hm : Pure w w') : VlsB w' b v cs := ⟨h.1.pure hm, h.2⟩
theorem VlsB.set (h : VlsB w b v cs) (hB : Blk w g 40 cells) (q : Nat) (u : Value) : VlsB (w.setCell ⟨g, q, none⟩ u) b v cs := by
 have hms : Mod (· = g) w (w.setCell ⟨g, q, none⟩ u) := Mod.setCell (S := (· = g)) (p := ⟨g, q, none⟩) (Mod.refl _ _) (.inl rfl) _
 exact ⟨h.1.mod hms (fun i arr fr hi => blk_ty hB hi (by decide)) (fun i arr fr hi => blk_ty hB hi (by decide)), h.2⟩
end
/-- The decisions under way. -/
def DcG (w : World) (base : Nat) (A : Option Addr) (c : Nat) (ds : List DecR) : Prop := w.ownsRow base 40 6 (.slice A ds.length c) ds.length (decV ds) ∧ DecS w ds
theorem DcG.ask {w w' : World} {base b N c : Nat} {A : Option Addr} {ds : List DecR} (h : DcG w base A c ds) (hS : Strm w b N) (hm : Mod (· = b) w w') (hb : b < base) : DcG w' base A c ds :=
 ⟨own_mod h.1 hm (fun i hi => by have := own_block h.1 i hi; omega), fun x hx => (h.2 x hx).strm hS hm⟩
theorem DcG.pure {w w' : World} {base c : Nat} {A : Option Addr} {ds : List DecR} (h : DcG w base A c ds) (hm : Pure w w') : DcG w' base A c ds := ⟨own_pure h.1 hm, h.2.pure hm⟩
theorem DcG.app {w w' : World} {base n' c c5 : Nat} {A A5 : Option Addr} {ds : List DecR} {x : DecR} (h : DcG w base A c ds) (h2 : Vals w (.slice x.A x.vals.length x.c) x.vals) (hm : Mod (fun j => (Value.slice A ds.length c).ownBlock = some j) w w') (hn : n' = ds.length + 1)
  (hown : w'.ownsRow base 40 6 (.slice A5 n' c5) n' (decV ds ++ decC x)) : DcG w' base A5 c5 (ds ++ [x]) := by
 have hty1 : ∀ i arr fr, w.heap[i]? = some (.cells arr 105 fr) → ¬ (Value.slice A ds.length c).ownBlock = some i := fun i arr fr hi hv => absurd (own_ty h.1 hv hi) (by decide)
 have hty2 : ∀ i arr fr, w.heap[i]? = some (.cells arr 9 fr) → ¬ (Value.slice A ds.length c).ownBlock = some i := fun i arr fr hi hv => absurd (own_ty h.1 hv hi) (by decide)
 subst hn
 exact ⟨by simpa [decV_snoc] using hown, DecS.snoc (h.2.mod hm hty1 hty2) (h2.mod hm hty1 hty2)⟩
/-- A decision in its box. -/
def DgBox (w : World) (b g8 : Nat) (x : DecR) : Prop := Blk w g8 40 (decC x).toArray ∧ VlsB w b (.slice x.A x.vals.length x.c) x.vals
section
variable {w w' : World} {b g8 : Nat} {x : DecR}
theorem DgBox.ask (h : DgBox w b g8 x) (hm : Mod (· = b) w w') (hg : g8 ≠ b) : DgBox w' b g8 x := ⟨h.1.mod hm hg, h.2.ask hm⟩
theorem DgBox.pure (h : DgBox w b g8 x) (hm : Pure w w') : DgBox w' b g8 x := ⟨h.1.modp hm, h.2.pure hm⟩
/-- Any such box is there, its cells are known. -/
theorem DgBox.cells (h : DgBox w b g8 x) : (w.cell? ⟨g8, 0, none⟩ = some (.int .i64 x.no) ∧ w.cell? ⟨g8, 1, none⟩ = some (.int .i64 x.at_) ∧ w.cell? ⟨g8, 2, none⟩ = some (.string ⟨x.rev.toArray⟩) ∧ w.cell? ⟨g8, 3, none⟩ = some (.string ⟨x.item.toArray⟩) ∧ w.cell? ⟨g8, 4, none⟩ = some (.bool x.sec) ∧ w.cell? ⟨g8, 5, none⟩ = some (.slice x.A x.vals.length x.c)) ∧ ∀ q, w.frozen? ⟨g8, q, none⟩ = false :=
 ⟨⟨h.1.cell 0, h.1.cell 1, h.1.cell 2, h.1.cell 3, h.1.cell 4, h.1.cell 5⟩, fun q => h.1.frozen q⟩
end

end Go.Proofs.YtkkndblcejmmjaaGreatDoor

/- Words that the laws of reviews share. -/
namespace Go.Proofs.YtkkndblcejmmjaaGreatDoor
set_option linter.unusedVariables false
set_option linter.unusedSimpArgs false
open Go.RowKit

/-- A string out of a row of some. -/
theorem strs_cell {W : World} {g q M : Nat} (ss : List Str) (h : Blk W g 9 (strsV ss).toArray) (hq : q < ss.length) (hM : ∀ s ∈ ss, s.length ≤ M) : ∃ s : Str, s.length ≤ M ∧ W.cell? ⟨g, q, none⟩ = some (.string ⟨s.toArray⟩) :=
 ⟨ss[q], hM _ (List.getElem_mem hq), by rw [h.cell q]; simpa using strsV_get ss q hq⟩
/-- Decisions that do not lie in block b, and are in a row of one's own. -/
def DcB (W : World) (b base : Nat) (A : Option Addr) (c : Nat) (ds : List DecR) : Prop := b < base ∧ W.ownsRow base 40 6 (.slice A ds.length c) ds.length (decV ds) ∧ ∀ x ∈ ds, VlsB W b (.slice x.A x.vals.length x.c) x.vals
section
variable {w w' : World} {b base c N : Nat} {A : Option Addr} {ds : List DecR}
theorem DcB.of (h : DcG w base A c ds) (hb : b < base) (hS : Strm w b N) : DcB w b base A c ds := ⟨hb, h.1, fun x hx => VlsB.of (h.2 x hx) hS⟩
theorem DcB.ask (h : DcB w b base A c ds) (hm : Mod (· = b) w w') : DcB w' b base A c ds := ⟨h.1, own_mod h.2.1 hm (fun i hi => by have := own_block h.2.1 i hi; have := h.1; omega), fun x hx => (h.2.2 x hx).ask hm⟩
theorem DcB.pure (h : DcB w b base A c ds) (hm : Pure w w') : DcB w' b base A c ds := ⟨h.1, own_pure h.2.1 hm, fun x hx => (h.2.2 x hx).pure hm⟩
end


end Go.Proofs.YtkkndblcejmmjaaGreatDoor
