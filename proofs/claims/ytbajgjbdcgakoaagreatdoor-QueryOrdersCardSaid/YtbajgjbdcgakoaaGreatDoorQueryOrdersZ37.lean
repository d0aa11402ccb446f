/- Texts of the proof of QueryOrders, put together: CmpL. -/
import Derived.Test.YtbajgjbdcgakoaaGreatDoorQueryOrdersZ9
import Derived.Test.YtbajgjbdcgakoaaGreatDoorQueryOrdersZ17
import Derived.Test.YtbajgjbdcgakoaaGreatDoorQueryOrdersZ36
import Derived.Sort.Walk0
/- slices.Compare over strings; the order of ways by ids is the order of ways by numbers. -/
namespace Go.Proofs.YtbajgjbdcgakoaaGreatDoor
set_option linter.unusedVariables false
set_option linter.unusedSimpArgs false
open Go.RowKit

/-- cmp.Compare of strings; slices.Compare. -/
def cmpS (a b : Str) : Int := if a < b then -1 else if b < a then 1 else 0
def cmpL : List Str → List Str → Int
 | [], [] => 0
 | [], _ :: _ => -1
 | _ :: _, [] => 1
 | a :: x, b :: y => if cmpS a b ≠ 0 then cmpS a b else cmpL x y
set_option maxRecDepth 100000 in
set_option maxHeartbeats 1000000 in
theorem isNaN_calls (x : Str) (w : World) : Calls Tryz.prog 134 #[.string ⟨x.toArray⟩] w (BoolSame w false) := by
 have hx : (x == x) = true := by simp
 go_enter Tryz.func134, Tryz.ntmps134
 go_wp2_with fail
 go_ret
 exact BoolSame.of (by simp)

set_option maxRecDepth 100000 in
set_option maxHeartbeats 1000000 in
theorem cmpCompare_calls (x y : Str) (w : World) : Calls Tryz.prog 89 #[.string ⟨x.toArray⟩, .string ⟨y.toArray⟩] w (fun e w' => e = .returned (.int .i64 (cmpS x y)) ∧ w = w') := by
 have HC : Hid (cmpS x y = if x < y then -1 else if y < x then 1 else 0) := Lib.hid rfl
 have b1 := bytesLess_eq x y
 have b2 := bytesLess_eq y x
 generalize cmpS x y = c at *
 go_enter Tryz.func89, Tryz.ntmps89
 go_wp2_with fail
 refine (isNaN_calls _ _).mono ?_
 rintro e w' ⟨rfl, rfl⟩
 go_wp2_with fail
 refine (isNaN_calls _ _).mono ?_
 rintro e w' ⟨rfl, rfl⟩
 by_cases h1 : x < y
 ·rw [decide_eq_true h1] at b1
  have HF : Hid (c = -1) := Lib.hid (by rw [HC.out, if_pos h1])
  clear HC h1 b2
  go_wp2_with fail
  go_ret
  exact ⟨by rw [HF.out]; rfl, rfl⟩
 ·rw [decide_eq_false h1] at b1
  by_cases h2 : y < x
  ·rw [decide_eq_true h2] at b2
   have HF : Hid (c = 1) := Lib.hid (by rw [HC.out, if_neg h1, if_pos h2])
   have hxy : (x == y) = false := by
    cases hq : (x == y)
    ·rfl
    ·rw [eq_of_beq hq] at h2; exact absurd h2 (List.lt_irrefl _)
   clear HC h1 h2
   go_wp2_with fail
   go_ret
   exact ⟨by rw [HF.out]; rfl, rfl⟩
  ·rw [decide_eq_false h2] at b2
   have HF : Hid (c = 0) := Lib.hid (by rw [HC.out, if_neg h1, if_neg h2])
   have hxy : (x == y) = true := by rw [str_total h1 h2]; simp
   clear HC h1 h2
   go_wp2_with fail
   go_ret
   exact ⟨by rw [HF.out]; rfl, rfl⟩

theorem cmpL_drop {x y : List Str} {k : Nat} (hx : k < x.length) (hy : k < y.length) : cmpL (x.drop k) (y.drop k) = if cmpS x[k] y[k] ≠ 0 then cmpS x[k] y[k] else cmpL (x.drop (k + 1)) (y.drop (k + 1)) := by
 rw [List.drop_eq_getElem_cons hx, List.drop_eq_getElem_cons hy]
 rfl
theorem cmpL_nil_right {x : List Str} (hx : 0 < x.length) : cmpL x [] = 1 := by
 cases x with
 | nil => simp at hx
 | cons a t => rfl
theorem cmpL_nil_left {y : List Str} : cmpL [] y = if 0 < y.length then -1 else 0 := by
 cases y with
 | nil => rfl
 | cons a t => simp [cmpL]

set_option maxRecDepth 100000 in
set_option maxHeartbeats 4000000 in
theorem compareS_calls (w : World) (v1 v2 : Value) (x y : List Str) (h1 : Sl w 9 1 v1 (strsV x)) (h2 : Sl w 9 1 v2 (strsV y)) : Calls Tryz.prog 46 #[v1, v2] w (fun e w' => e = .returned (.int .i64 (cmpL x y)) ∧ w = w') := by
 obtain ⟨A, n, c, rfl, hc1, hc2, hl1, hr1⟩ := h1
 obtain ⟨B, m, d, rfl, hd1, hd2, hl2, hr2⟩ := h2
 have hx : x.length = n := by rw [strsV_len] at hl1; omega
 have hy : y.length = m := by rw [strsV_len] at hl2; omega
 subst hx hy
 have H1 := Lib.hid hr1
 have H2 := Lib.hid hr2
 clear hl1 hl2 hr1 hr2
 go_enter Tryz.func46, Tryz.ntmps46
 go_wp2_with fail
 go_loopg [11] x.length (fun gk i wr => ∃ k : Nat, x.length - k = gk ∧ k ≤ x.length ∧ k ≤ y.length ∧ i = .int .i64 (k : Int) ∧ cmpL (x.drop k) (y.drop k) = cmpL x y ∧ w = wr)
 case atStart => exact ⟨0, by omega, by omega, by omega, rfl, rfl, rfl⟩
 case round =>
  obtain ⟨k, rfl, hk, hky, rfl, hix, rfl⟩ := hrel
  have HIX := Lib.hid hix
  clear hix
  by_cases hlt : k < x.length
  ·obtain ⟨g, off, rfl, hrow⟩ := H1.out (by omega)
   have q1 := hrow.cell (strsV_get x k hlt)
   by_cases hlt2 : k < y.length
   ·obtain ⟨g2, off2, rfl, hrow2⟩ := H2.out (by omega)
    have q2 := hrow2.cell (strsV_get y k hlt2)
    have HS := Lib.hid (cmpL_drop hlt hlt2)
    rw [HIX.out] at HS
    clear hrow hrow2 HIX
    have HCC := Lib.hid (fun W => cmpCompare_calls x[k] y[k] W)
    generalize x[k] = a at *
    generalize y[k] = b at *
    generalize cmpS a b = cm at *
    have n1 : ¬ ((y.length : Int) ≤ (k : Int)) := by omega
    go_wp2_with fail
    refine (HCC.out _).mono ?_
    rintro e w' ⟨rfl, rfl⟩
    by_cases h0 : cm = 0
    ·have HN : Hid (cmpL (x.drop (k + 1)) (y.drop (k + 1)) = cmpL x y) := Lib.hid (by rw [HS.out, if_neg (by simpa using h0)])
     clear HS HCC
     subst h0
     go_wp2_with fail
     go_roundg (x.length - (k + 1))
     case measure => omega
     case rel => exact ⟨k + 1, rfl, by omega, by omega, by simp, HN.out, rfl⟩
    ·have h0' : (cm != 0) = true := by simpa using h0
     have HN : Hid (cmpL x y = cm) := Lib.hid (by rw [HS.out, if_pos h0])
     clear HS HCC h0
     go_wp2_with fail
     go_ret
     exact ⟨by rw [HN.out]; rfl, rfl⟩
   ·have hke : k = y.length := by omega
    have HN : Hid (cmpL x y = 1) := Lib.hid (by
     rw [← HIX.out, show y.drop k = [] from List.drop_of_length_le (by omega)]
     exact cmpL_nil_right (by rw [List.length_drop]; omega))
    have n1 : (y.length : Int) ≤ (k : Int) := by omega
    clear hrow HIX hke
    generalize x[k] = a at *
    go_wp2_with fail
    go_ret
    exact ⟨by rw [HN.out]; rfl, rfl⟩
  ·have hke : k = x.length := by omega
   have HN : Hid (cmpL x y = if x.length < y.length then -1 else 0) := Lib.hid (by
    rw [← HIX.out, show x.drop k = [] from List.drop_of_length_le (by omega), cmpL_nil_left, List.length_drop]
    by_cases h : x.length < y.length
    ·rw [if_pos (by omega), if_pos h]
    ·rw [if_neg (by omega), if_neg h])
   clear HIX hke
   by_cases h : x.length < y.length
   ·have h' : (x.length : Int) < (y.length : Int) := by omega
    rw [if_pos h] at HN
    clear h
    go_wp2_with fail
    go_ret
    exact ⟨by rw [HN.out]; rfl, rfl⟩
   ·have h' : ¬ ((x.length : Int) < (y.length : Int)) := by omega
    rw [if_neg h] at HN
    clear h
    go_wp2_with fail
    go_ret
    exact ⟨by rw [HN.out]; rfl, rfl⟩

end Go.Proofs.YtbajgjbdcgakoaaGreatDoor
