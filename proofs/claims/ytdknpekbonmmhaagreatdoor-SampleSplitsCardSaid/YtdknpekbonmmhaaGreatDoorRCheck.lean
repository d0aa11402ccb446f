/- The reference's and the laws' small checks. -/
import Derived.Test.YtdknpekbonmmhaaGreatDoorRLikely
namespace Go.Proofs.YtdknpekbonmmhaaGreatDoor
set_option linter.unusedVariables false
set_option linter.unusedSimpArgs false
open Go.RowKit

set_option maxRecDepth 100000 in
set_option maxHeartbeats 400000 in
theorem wrongOr_calls (w : World) (g c : Nat) (es : List Int) (hb : RowAt w 41 g 0 (es.map (Value.int .i64))) (hl : es.length ≤ 1000) :
    Calls Tryz.prog 37 #[.slice (some ⟨g, 0, none⟩) es.length c] w (IntPost w (firstErr es)) := by
  go_enter Tryz.func37, Tryz.ntmps37
  go_wp2_with fail
  go_loopg [7] es.length (fun gk i wr => ∃ k : Nat, es.length - k = gk ∧ k ≤ es.length ∧ i = .int .i64 (k : Int) ∧ firstErr (es.drop k) = firstErr es ∧ w = wr)
  case atStart => exact ⟨0, by omega, by omega, rfl, rfl, rfl⟩
  case round =>
    obtain ⟨k, rfl, hk, rfl, hf, rfl⟩ := hrel
    have HF := Lib.hid hf
    clear hf
    by_cases hlt : k < es.length
    · have hc := hb.cell (i := k) (u := .int .i64 es[k]) (by simp [hlt])
      rw [Nat.zero_add] at hc
      have hd : es.drop k = es[k] :: es.drop (k + 1) := List.drop_eq_getElem_cons hlt
      have hf2 : firstErr es = if es[k] = 0 then firstErr (es.drop (k + 1)) else es[k] := by rw [← HF.out, hd]; rfl
      have HF2 := Lib.hid hf2
      clear hd hf2
      generalize es[k] = x at *
      by_cases hx : x = 0
      · subst hx
        go_wp2_with fail
        go_roundg (es.length - (k + 1))
        case measure => omega
        case rel => exact ⟨k + 1, rfl, hlt, by simp, by rw [HF2.out]; simp, rfl⟩
      · have hx2 : (x != 0) = true := by simpa using hx
        go_wp2_with fail
        go_ret
        exact IntPost.of (by rw [HF2.out, if_neg hx]) (Mod.refl _ _)
    · have hke : k = es.length := by omega
      subst hke
      go_wp2_with fail
      go_ret
      exact IntPost.of (by rw [← HF.out]; simp [firstErr]) (Mod.refl _ _)

end Go.Proofs.YtdknpekbonmmhaaGreatDoor
