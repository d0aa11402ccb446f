/- Texts of the proof of DecisionTexts, put together: RdF. -/
import Derived.Test.YtaidkmnbjbnciaaGreatDoorDecisionTextsZ31
import Derived.Test.YtaidkmnbjbnciaaGreatDoorDecisionTextsZ36
/- ReadLayout of the program, for any text that is not too long. -/
namespace Go.Proofs.YtaidkmnbjbnciaaGreatDoor
set_option linter.unusedVariables false
set_option linter.unusedSimpArgs false
open Go.RowKit

theorem MlnS.lt {w : World} (h : MlnS w) : 4 < w.heap.size := by
 obtain ⟨m, hc⟩ := h
 unfold World.cell? at hc
 simp only at hc
 cases hh : w.heap[4]? with
 | none => rw [hh] at hc; cases hc
 | some b => exact (Array.getElem?_eq_some_iff.1 hh).1
theorem Asc.lt {w : World} (h : Asc w) : 0 < w.heap.size := by
 unfold Asc Lib.TabIs World.var? at h
 rw [asc_g] at h
 simp only [Option.bind_some] at h
 cases hh : w.heap[0]? with
 | none => rw [hh] at h; simp at h
 | some b => exact (Array.getElem?_eq_some_iff.1 hh).1
theorem MlnS.keep {base : Nat} {w w' : World} (h : MlnS w) (hm : KeepS base w w') (hb : 4 < base) : MlnS w' := h.mod hm (fun hs => by have := hs.1; omega)
theorem Asc.keep {base : Nat} {w w' : World} (h : Asc w) (hm : KeepS base w w') (hb : 0 < base) : Asc w' := h.mod hm (fun hs => by have := hs.1; omega)
theorem LayV.other {w w' : World} {L : LayR} {v : Value} {g : Nat} {t : TypeId} {cs : Array Value} (h : LayV w L v) (hm : Mod (· = g) w w') (hB : Blk w g t cs) (h1 : t ≠ 9) (h2 : t ≠ 99) (h3 : t ≠ 103) : LayV w' L v := by
 obtain ⟨A, n, c, A2, n2, c2, e, ⟨ha, hs⟩, hr⟩ := h
 exact ⟨A, n, c, A2, n2, c2, e, ⟨ha.mod hm (fun k arr fr hk => blk_tyR hB hk h2), fun x hx => (hs x hx).mod hm (fun k arr fr hk => blk_tyR hB hk h1)⟩, Sl.mod hr hm (fun k arr fr hk => blk_tyR hB hk h3)⟩
end Go.Proofs.YtaidkmnbjbnciaaGreatDoor
