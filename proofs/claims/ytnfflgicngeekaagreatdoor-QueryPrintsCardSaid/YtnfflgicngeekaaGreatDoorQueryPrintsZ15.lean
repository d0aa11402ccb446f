/- Texts of the proof of QueryPrints, put together: Check, Idx. -/
import Derived.Test.YtnfflgicngeekaaGreatDoorQueryPrintsZ8
import Derived.Test.YtnfflgicngeekaaGreatDoorQueryPrintsZ11
import Derived.Deep.RegionHeld3
import Derived.Deep.DeepCutAuto
import Derived.Deep.DrawnRows
/- Small functions of base and sample: errors. -/
namespace Go.Proofs.YtnfflgicngeekaaGreatDoor
set_option linter.unusedVariables false
set_option linter.unusedSimpArgs false
open Go.RowKit
attribute [local go_sem ↓] Go.wp_at_zero Go.wp_at_succ

set_option maxHeartbeats 400000 in
theorem when_t (e : Int) (w : World) : Calls Tryz.prog 62 #[.bool true, .int .i64 e] w fun r w' => r = .returned (.int .i64 e) ∧ w = w' := by
 go_enter Tryz.func62, Tryz.ntmps62
 go_wp2
 go_ret
 exact ⟨rfl, rfl⟩
set_option maxHeartbeats 400000 in
theorem when_f (e : Int) (w : World) : Calls Tryz.prog 62 #[.bool false, .int .i64 e] w fun r w' => r = .returned (.int .i64 0) ∧ w = w' := by
 go_enter Tryz.func62, Tryz.ntmps62
 go_wp2
 go_ret
 exact ⟨rfl, rfl⟩

/-- The first error of several. -/
def firstErr : List Int → Int
 | [] => 0
 | e :: l => if e = 0 then firstErr l else e

set_option maxRecDepth 100000 in
set_option maxHeartbeats 400000 in
theorem firstE_calls (w : World) (g c : Nat) (es : List Int) (hb : RowAt w 30 g 0 (es.map (Value.int .i64))) (hl : es.length ≤ 1000) :
  Calls Tryz.prog 55 #[.slice (some ⟨g, 0, none⟩) es.length c] w (IntPost w (firstErr es)) := by
 go_enter Tryz.func55, Tryz.ntmps55
 go_wp2_with fail
 go_loopg [7] es.length (fun gk i wr => ∃ k : Nat, es.length - k = gk ∧ k ≤ es.length ∧ i = .int .i64 (k : Int) ∧ firstErr (es.drop k) = firstErr es ∧ w = wr)
 case atStart => exact ⟨0, by omega, by omega, rfl, rfl, rfl⟩
 case round =>
  obtain ⟨k, rfl, hk, rfl, hf, rfl⟩ := hrel
  have HF := Lib.hid hf
  clear hf
  by_cases hlt : k < es.length
  ·have hc := hb.cell (i := k) (u := .int .i64 es[k]) (by simp [hlt])
   rw [Nat.zero_add] at hc
   have hd : es.drop k = es[k] :: es.drop (k + 1) := List.drop_eq_getElem_cons hlt
   have hf2 : firstErr es = if es[k] = 0 then firstErr (es.drop (k + 1)) else es[k] := by rw [← HF.out, hd]; rfl
   have HF2 := Lib.hid hf2
   clear hd hf2
   generalize es[k] = x at *
   by_cases hx : x = 0
   ·subst hx
    go_wp2_with fail
    go_roundg (es.length - (k + 1))
    case measure => omega
    case rel => exact ⟨k + 1, rfl, hlt, by simp, by rw [HF2.out]; simp, rfl⟩
   ·have hx2 : (x != 0) = true := by simpa using hx
    go_wp2_with fail
    go_ret
    exact IntPost.of (by rw [HF2.out, if_neg hx]) (Mod.refl _ _)
  ·have hke : k = es.length := by omega
   subst hke
   go_wp2_with fail
   go_ret
   exact IntPost.of (by rw [← HF.out]; simp [firstErr]) (Mod.refl _ _)

set_option maxHeartbeats 400000 in
theorem rin_calls (n a b : Int) (w : World) :
  Calls Tryz.prog 69 #[.int .i64 n, .int .i64 a, .int .i64 b] w fun e w' => e = .returned (.bool (inB n a b)) ∧ w = w' := by
 unfold inB
 by_cases h1 : a ≤ n
 ·by_cases h2 : n ≤ b
  all_goals
   go_enter Tryz.func69, Tryz.ntmps69
   go_wp2
   go_ret
   exact ⟨by simp [h1, h2], rfl⟩
 ·go_enter Tryz.func69, Tryz.ntmps69
  go_wp2
  go_ret
  exact ⟨by simp; omega, rfl⟩

end Go.Proofs.YtnfflgicngeekaaGreatDoor

/- slices.IndexFunc, slices.ContainsFunc over numbers, with a closure that captured nothing; sample.counts. -/
namespace Go.Proofs.YtnfflgicngeekaaGreatDoor
set_option linter.unusedVariables false
set_option linter.unusedSimpArgs false
open Go.RowKit

def countB (n : Int) : Bool := !inB n 0 1000000
end Go.Proofs.YtnfflgicngeekaaGreatDoor
