/- Texts of the proof of SampleStrata, put together: AllocB. -/
import Derived.Test.YtkchninlhemioaaGreatDoorSampleStrataZ12
import Derived.Test.YtkchninlhemioaaGreatDoorSampleStrataZ18
import Derived.Laws.AppendOwnNone
import Derived.Maps.AppendAt
/- Allocate: SizesFault, Clone, the comparison. -/
namespace Go.Proofs.YtkchninlhemioaaGreatDoor
set_option linter.unusedVariables false
set_option linter.unusedSimpArgs false
open Go.RowKit
attribute [local go_sem ↓] Go.wp_at_zero Go.wp_at_succ

def sizeB (z : Int) : Bool := !inB z 0 2000
def sizesErr (zs : List Int) : Int := if zs.any sizeB then 1 else 0
set_option maxRecDepth 100000 in
set_option maxHeartbeats 2000000 in
theorem cmp_calls (w : World) (zs : List Int) (many sum : Int) (A : Option Addr) (c g2 g3 g4 x y : Nat) (hx : x < zs.length) (hy : y < zs.length) (hm : 0 ≤ many ∧ many ≤ 2000) (hs : 1 ≤ sum ∧ sum ≤ 100000000) (hz : ∀ z ∈ zs, 0 ≤ z ∧ z ≤ 2000)
    (h2 : w.cell? ⟨g2, 0, none⟩ = some (.int .i64 many)) (h3 : w.cell? ⟨g3, 0, none⟩ = some (.slice A zs.length c)) (h4 : w.cell? ⟨g4, 0, none⟩ = some (.int .i64 sum)) (hv : Sl w 3 1 (.slice A zs.length c) (intsV zs)) :
    Calls Tryz.prog 72 #[.int .i64 (x : Int), .int .i64 (y : Int), .pointer (some ⟨g2, 0, none⟩), .pointer (some ⟨g3, 0, none⟩), .pointer (some ⟨g4, 0, none⟩)] w (IntPost w (remA zs many sum y - remA zs many sum x)) := by
  obtain ⟨g, off, rfl, hrow⟩ := hv.row (by omega)
  have q1 := hrow.cell (intsV_get zs x hx)
  have q2 := hrow.cell (intsV_get zs y hy)
  have hzx := hz _ (List.getElem_mem hx)
  have hzy := hz _ (List.getElem_mem hy)
  have HX : Hid (remA zs many sum x = many * zs[x] % sum) := by
    show remA zs many sum x = _
    unfold remA
    simp [List.getD, hx]
  have HY : Hid (remA zs many sum y = many * zs[y] % sum) := by
    show remA zs many sum y = _
    unfold remA
    simp [List.getD, hy]
  clear hz hv hrow
  generalize zs[x] = zx at *
  generalize zs[y] = zy at *
  have a1 : 0 ≤ many * zx := Int.mul_nonneg hm.1 hzx.1
  have a2 : many * zx ≤ 2000 * 2000 := Int.mul_le_mul hm.2 hzx.2 hzx.1 (by omega)
  have a3 : 0 ≤ many * zy := Int.mul_nonneg hm.1 hzy.1
  have a4 : many * zy ≤ 2000 * 2000 := Int.mul_le_mul hm.2 hzy.2 hzy.1 (by omega)
  have e1 : IntKind.i64.wrap (many * zx) = many * zx := IntWalk.i64_in _ (by omega)
  have e2 : IntKind.i64.wrap (many * zy) = many * zy := IntWalk.i64_in _ (by omega)
  have t1 : (many * zx).tmod sum = many * zx % sum := Int.tmod_eq_emod_of_nonneg a1
  have t2 : (many * zy).tmod sum = many * zy % sum := Int.tmod_eq_emod_of_nonneg a3
  have b1 := Int.emod_nonneg (many * zx) (show sum ≠ 0 by omega)
  have b2 := Int.emod_lt_of_pos (many * zx) (show 0 < sum by omega)
  have b3 := Int.emod_nonneg (many * zy) (show sum ≠ 0 by omega)
  have b4 := Int.emod_lt_of_pos (many * zy) (show 0 < sum by omega)
  have e3 : IntKind.i64.wrap (many * zx % sum) = many * zx % sum := IntWalk.i64_in _ (by omega)
  have e4 : IntKind.i64.wrap (many * zy % sum) = many * zy % sum := IntWalk.i64_in _ (by omega)
  have e5 : IntKind.i64.wrap (many * zy % sum - many * zx % sum) = many * zy % sum - many * zx % sum := IntWalk.i64_in _ (by omega)
  have hs0 : (sum == 0) = false := by simp; omega
  have i1 : (0 : Int) ≤ (x : Int) := by omega
  have i2 : (x : Int) < (zs.length : Int) := by omega
  have i3 : (0 : Int) ≤ (y : Int) := by omega
  have i4 : (y : Int) < (zs.length : Int) := by omega
  go_enter Tryz.func72, Tryz.ntmps72
  go_wp2_with fail
  go_quiet (fail)
  go_wp2_with fail
  go_ret
  exact IntPost.of (by rw [HX.out, HY.out]) ((Mod.refl _ _).drewN _)

end Go.Proofs.YtkchninlhemioaaGreatDoor
