/- Texts of the proof of DecisionMerges, put together: OrdC, OrdR, OrdS, OrdT, MrgA, MrgB, MrgE, MrgD, MrgF. -/
import Derived.Test.YtkkndblcejmmjaaGreatDoorDecisionMergesZ16
import Derived.Test.YtkkndblcejmmjaaGreatDoorDecisionMergesZ20
import Derived.Test.YtkkndblcejmmjaaGreatDoorDecisionMergesZ26
import Derived.Test.YtkkndblcejmmjaaGreatDoorDecisionMergesZ30
import Derived.Test.YtkkndblcejmmjaaGreatDoorDecisionMergesZ36
import Derived.Shelf.Small.Strs
/- The order of decisions: the program's. -/
namespace Go.Proofs.YtkkndblcejmmjaaGreatDoor
set_option linter.unusedVariables false
set_option linter.unusedSimpArgs false
open Go.RowKit

set_option maxRecDepth 100000 in
set_option maxHeartbeats 4000000 in
theorem order_calls (w : World) (vl v1 v2 : Value) (L : LayR) (xs ys : List ChoR) (hL : LayV w L vl) (hLB : LayB L) (h1 : Vals w v1 xs) (h2 : Vals w v2 ys) (hk : ∀ x ∈ xs, 0 ≤ kIx L.asks x.field) : Calls Tryz.prog 84 #[vl, v1, v2] w (IntD w (ordV L.asks xs ys)) := by
 obtain ⟨A, n, c, A2, n2, c2, rfl, hA, hR⟩ := hL
 obtain ⟨B1, m1, d1, rfl⟩ := h1.1.form
 obtain ⟨B2, m2, d2, rfl⟩ := h2.1.form
 have hL : LayV w L (.agg #[.slice A n c, .slice A2 n2 c2]) := ⟨A, n, c, A2, n2, c2, rfl, hA, hR⟩
 have HP : Hid (ModD w (w.alloc (.cells #[.slice A n c, .slice A2 n2 c2] 29))) := Lib.hid (ModD.alloc _ _)
 have HB := Lib.hid (Blk.new w 29 #[.slice A n c, .slice A2 n2 c2])
 have HC := Lib.hid (compC1_calls (w.alloc (.cells #[.slice A n c, .slice A2 n2 c2] 29)) _ _ xs ys 135 (.pointer (some ⟨w.heap.size, 0, none⟩)) (ordQ L.asks) (h1.pure HP.out.1) (h2.pure HP.out.1) (fun _ _ _ => rfl)
  (fun x y W hx hy hm => ord1_calls W w.heap.size A A2 n c n2 c2 L x y (HB.out.modp hm.1) (hL.pure (HP.out.trans hm).1) hLB ((h1.2 x hx).pure (HP.out.trans hm).1) ((h2.2 y hy).pure (HP.out.trans hm).1) (hk x hx)))
 have HQ : Hid (ordV L.asks xs ys = cmpQ (ordQ L.asks) xs ys) := Lib.hid rfl
 clear hA hR h1 h2 hL hLB hk HB
 generalize ordV L.asks xs ys = q at *
 generalize cmpQ (ordQ L.asks) xs ys = r at *
 go_enter Tryz.func84, Tryz.ntmps84
 go_wp2_with fail
 refine HC.out.mono ?_
 rintro e w2 ⟨rfl, hm⟩
 go_wp2_with fail
 go_ret
 exact IntD.of HQ.out (HP.out.trans hm)
set_option maxRecDepth 100000 in
set_option maxHeartbeats 1000000 in
theorem second_calls (w : World) (x : DecR) : Calls Tryz.prog 83 #[DecVal x] w (IntD w (secI x.sec)) := by
 obtain ⟨no, ax, r, i, s, A, c, v⟩ := x
 rw [DecVal.eq]
 cases s
 ·go_enter Tryz.func83, Tryz.ntmps83
  go_wp2_with fail
  go_ret
  exact IntD.of rfl (ModD.alloc _ _)
 ·go_enter Tryz.func83, Tryz.ntmps83
  go_wp2_with fail
  go_ret
  exact IntD.of rfl (ModD.alloc _ _)
theorem cmpStr_calls (w : World) (a b : Str) : Calls Tryz.prog 82 #[.string ⟨a.toArray⟩, .string ⟨b.toArray⟩] w (IntD w (Lib.compareBytes a b)) :=
 (Any.strings_Compare Tryz.cmpStrK ⟨a.toArray⟩ ⟨b.toArray⟩ w).mono fun e w' h => ⟨by simpa using h.1, by rw [h.2]; exact ModD.refl _⟩
theorem or4 (a b c d : Int) : firstErr [a, b, c, d] = or2 a (or2 b (or2 c d)) := by
 unfold or2
 simp only [firstErr]
 by_cases ha : a = 0
 ·by_cases hb : b = 0
  ·by_cases hc : c = 0
   ·by_cases hd : d = 0 <;> simp [ha, hb, hc, hd]
   ·simp [ha, hb, hc]
  ·simp [ha, hb]
 ·simp [ha]

end Go.Proofs.YtkkndblcejmmjaaGreatDoor

/- The order of values: the reference's. -/
namespace Go.Proofs.YtkkndblcejmmjaaGreatDoor
set_option linter.unusedVariables false
set_option linter.unusedSimpArgs false
open Go.RowKit

theorem ints_getR (xs : List Int) (i : Nat) (h : i < xs.length) : (ints xs)[i]? = some (.int .i64 xs[i]) := by simp [ints, h]
theorem ints_lenR (xs : List Int) : (ints xs).length = xs.length := by simp [ints]
theorem isNaNI_calls (w : World) (x : Int) : Calls Tryz.prog 219 #[.int .i64 x] w (BoolD w false) := by
 have h : (x != x) = false := by simp
 go_enter Tryz.func219, Tryz.ntmps219
 go_wp2_with fail
 go_ret
 exact BoolD.of rfl (ModD.refl _)
set_option maxRecDepth 100000 in
set_option maxHeartbeats 1000000 in
theorem cmpInt_calls (w : World) (x y : Int) : Calls Tryz.prog 185 #[.int .i64 x, .int .i64 y] w (IntD w (cmpZ x y)) := by
 have HC : Hid (cmpZ x y = if x < y then -1 else if y < x then 1 else 0) := Lib.hid rfl
 generalize cmpZ x y = q at *
 go_enter Tryz.func185, Tryz.ntmps185
 go_wp2_with fail
 refine (isNaNI_calls _ _).mono ?_
 rintro e w1 ⟨rfl, hm1⟩
 go_wp2_with fail
 refine (isNaNI_calls _ _).mono ?_
 rintro e w2 ⟨rfl, hm2⟩
 have HM := Lib.hid (hm1.trans hm2)
 clear hm1 hm2
 by_cases h1 : x < y
 ·have HQ : Hid (q = -1) := Lib.hid (by rw [HC.out, if_pos h1])
  clear HC
  go_wp2_with fail
  go_ret
  exact IntD.of HQ.out HM.out
 ·by_cases h2 : y < x
  ·have HQ : Hid (q = 1) := Lib.hid (by rw [HC.out, if_neg h1, if_pos h2])
   clear HC
   go_wp2_with fail
   go_ret
   exact IntD.of HQ.out HM.out
  ·have HQ : Hid (q = 0) := Lib.hid (by rw [HC.out, if_neg h1, if_neg h2])
   clear HC
   go_wp2_with fail
   go_ret
   exact IntD.of HQ.out HM.out

set_option maxRecDepth 100000 in
set_option maxHeartbeats 2000000 in
theorem compI_calls (w : World) (v1 v2 : Value) (xs ys : List Int) (h1 : Sl w 3 1 v1 (ints xs)) (h2 : Sl w 3 1 v2 (ints ys)) :
  Calls Tryz.prog 144 #[v1, v2] w (IntD w (cmpQ cmpZ xs ys)) := by
 obtain ⟨A1, n1, c1', rfl, a1, a2, a3, a4⟩ := h1
 obtain ⟨A2, n2, c2', rfl, b1, b2, b3, b4⟩ := h2
 have hn1 : xs.length = n1 := by rw [ints_lenR] at a3; omega
 have hn2 : ys.length = n2 := by rw [ints_lenR] at b3; omega
 subst hn1
 subst hn2
 have HA := Lib.hid a4
 have HB := Lib.hid b4
 have hyb : ys.length ≤ 9223372036854775807 := by omega
 have hxb : xs.length ≤ 9223372036854775807 := by omega
 clear a3 b3 a4 b4
 go_enter Tryz.func144, Tryz.ntmps144
 go_wp2_with fail
 go_loopg [11] xs.length (fun gk i wr => ∃ k : Nat, xs.length - k = gk ∧ k ≤ xs.length ∧ i = .int .i64 (k : Int) ∧ Hid (cmpQ cmpZ (xs.drop k) (ys.drop k) = cmpQ cmpZ xs ys) ∧ ModD w wr)
 case atStart => exact ⟨0, by omega, by omega, rfl, Lib.hid rfl, ModD.refl _⟩
 case round =>
  obtain ⟨k, rfl, hk, rfl, HT, hm⟩ := hrel
  by_cases hlt : k < xs.length
  ·obtain ⟨g1, o1, rfl, r1⟩ := HA.out (by omega)
   have q1 := (r1.mod hm.1 id).cell (ints_getR xs k hlt)
   have hkl : (k : Int) < (xs.length : Int) := by omega
   clear r1
   by_cases hky : k < ys.length
   ·obtain ⟨g2, o2, rfl, r2⟩ := HB.out (by omega)
    have q2 := (r2.mod hm.1 id).cell (ints_getR ys k hky)
    have HC := Lib.hid (cmpInt_calls wr xs[k] ys[k])
    have HS := Lib.hid (HT.out.symm.trans (cmpQ_take cmpZ hlt hky))
    have hkn : ¬ (ys.length : Int) ≤ (k : Int) := by omega
    have hkm : (k : Int) < (ys.length : Int) := by omega
    clear r2 HT
    generalize xs[k] = x at *
    generalize ys[k] = y at *
    generalize cmpZ x y = q at *
    generalize cmpQ cmpZ xs ys = r at *
    go_wp2_with fail
    refine HC.out.mono ?_
    rintro e w1 ⟨rfl, hm1⟩
    have HM := Lib.hid (hm.trans hm1)
    clear HC hm hm1
    by_cases hq : q = 0
    ·subst hq
     have HN : Hid (cmpQ cmpZ (xs.drop (k + 1)) (ys.drop (k + 1)) = r) := Lib.hid (by rw [HS.out, if_neg (by simp)])
     clear HS
     go_wp2_with fail
     go_roundg (xs.length - (k + 1))
     case measure => omega
     case rel => exact ⟨k + 1, rfl, by omega, by simp, HN, HM.out⟩
    ·have hq' : (q != 0) = true := by simpa using hq
     have HN : Hid (r = q) := Lib.hid (by rw [HS.out, if_pos hq])
     clear HS
     go_wp2_with fail
     go_ret
     exact IntD.of HN.out HM.out
   ·have HN : Hid (cmpQ cmpZ xs ys = 1) := Lib.hid (HT.out.symm.trans (cmpQ_endR cmpZ hlt (by omega)))
    have hkn : (ys.length : Int) ≤ (k : Int) := by omega
    clear HT
    go_wp2_with fail
    go_ret
    exact IntD.of HN.out hm
  ·have hke : xs.length ≤ k := by omega
   have HN := Lib.hid (HT.out.symm.trans (cmpQ_endL cmpZ hke))
   clear HT
   generalize cmpQ cmpZ xs ys = r at *
   have hkk : k = xs.length := by omega
   subst hkk
   by_cases hky : xs.length < ys.length
   ·have hky' : (xs.length : Int) < (ys.length : Int) := by omega
    have HN2 : Hid (r = -1) := Lib.hid (by rw [HN.out, if_pos hky])
    clear HN hke
    go_wp2_with fail
    go_ret
    exact IntD.of HN2.out hm
   ·have hky' : ¬ (xs.length : Int) < (ys.length : Int) := by omega
    have HN2 : Hid (r = 0) := Lib.hid (by rw [HN.out, if_neg hky])
    clear HN hke
    go_wp2_with fail
    go_ret
    exact IntD.of HN2.out hm

/-- A row of numbers; A and c are the place and the room of its slice. -/
structure RowZ where
 A : Option Addr
 c : Nat
 zs : List Int
def rzV (rs : List RowZ) : List Value := rs.map fun r => .slice r.A r.zs.length r.c
theorem rzV_len (rs : List RowZ) : (rzV rs).length = rs.length := by simp [rzV]
theorem rzV_get (rs : List RowZ) (i : Nat) (h : i < rs.length) : (rzV rs)[i]? = some (.slice rs[i].A rs[i].zs.length rs[i].c) := by simp [rzV, h]
def RzS (W : World) (rs : List RowZ) : Prop := ∀ r ∈ rs, Sl W 3 1 (.slice r.A r.zs.length r.c) (ints r.zs)

set_option maxRecDepth 100000 in
set_option maxHeartbeats 2000000 in
theorem compR_calls (w : World) (v1 v2 : Value) (xs ys : List RowZ) (F : Nat) (f : RowZ → RowZ → Int) (h1 : Sl w 22 1 v1 (rzV xs)) (h2 : Sl w 22 1 v2 (rzV ys))
  (hcf : ∀ (x y : RowZ) (W : World), Sem.run Tryz.prog (callFunc F #[.slice x.A x.zs.length x.c, .slice y.A y.zs.length y.c]) W = .ok (.enter F #[.slice x.A x.zs.length x.c, .slice y.A y.zs.length y.c]) W)
  (hF : ∀ (x y : RowZ) (W : World), x ∈ xs → y ∈ ys → ModD w W → Calls Tryz.prog F #[.slice x.A x.zs.length x.c, .slice y.A y.zs.length y.c] W (IntD W (f x y))) :
  Calls Tryz.prog 142 #[v1, v2, .func (.func F) #[] #[]] w (IntD w (cmpQ f xs ys)) := by
 have HF := Lib.hid hF
 obtain ⟨A1, n1, c1', rfl, a1, a2, a3, a4⟩ := h1
 obtain ⟨A2, n2, c2', rfl, b1, b2, b3, b4⟩ := h2
 have hn1 : xs.length = n1 := by rw [rzV_len] at a3; omega
 have hn2 : ys.length = n2 := by rw [rzV_len] at b3; omega
 subst hn1
 subst hn2
 have HA := Lib.hid a4
 have HB := Lib.hid b4
 have hyb : ys.length ≤ 9223372036854775807 := by omega
 have hxb : xs.length ≤ 9223372036854775807 := by omega
 clear a3 b3 a4 b4 hF
 go_enter Tryz.func142, Tryz.ntmps142
 go_wp2_with fail
 go_loopg [13] xs.length (fun gk i wr => ∃ k : Nat, xs.length - k = gk ∧ k ≤ xs.length ∧ i = .int .i64 (k : Int) ∧ Hid (cmpQ f (xs.drop k) (ys.drop k) = cmpQ f xs ys) ∧ ModD w wr)
 case atStart => exact ⟨0, by omega, by omega, rfl, Lib.hid rfl, ModD.refl _⟩
 case round =>
  obtain ⟨k, rfl, hk, rfl, HT, hm⟩ := hrel
  by_cases hlt : k < xs.length
  ·obtain ⟨g1, o1, rfl, r1⟩ := HA.out (by omega)
   have q1 := (r1.mod hm.1 id).cell (rzV_get xs k hlt)
   have hkl : (k : Int) < (xs.length : Int) := by omega
   clear r1
   by_cases hky : k < ys.length
   ·obtain ⟨g2, o2, rfl, r2⟩ := HB.out (by omega)
    have q2 := (r2.mod hm.1 id).cell (rzV_get ys k hky)
    have HC := Lib.hid (HF.out xs[k] ys[k] wr (List.getElem_mem hlt) (List.getElem_mem hky) hm)
    have HS := Lib.hid (HT.out.symm.trans (cmpQ_take f hlt hky))
    have hkn : ¬ (ys.length : Int) ≤ (k : Int) := by omega
    have hkm : (k : Int) < (ys.length : Int) := by omega
    clear r2 HT
    generalize xs[k] = x at *
    generalize ys[k] = y at *
    generalize f x y = q at *
    generalize cmpQ f xs ys = r at *
    go_wp2_with fail
    refine HC.out.mono ?_
    rintro e w1 ⟨rfl, hm1⟩
    have HM := Lib.hid (hm.trans hm1)
    clear HC hm hm1
    by_cases hq : q = 0
    ·subst hq
     have HN : Hid (cmpQ f (xs.drop (k + 1)) (ys.drop (k + 1)) = r) := Lib.hid (by rw [HS.out, if_neg (by simp)])
     clear HS
     go_wp2_with fail
     go_roundg (xs.length - (k + 1))
     case measure => omega
     case rel => exact ⟨k + 1, rfl, by omega, by simp, HN, HM.out⟩
    ·have hq' : (q != 0) = true := by simpa using hq
     have HN : Hid (r = q) := Lib.hid (by rw [HS.out, if_pos hq])
     clear HS
     go_wp2_with fail
     go_ret
     exact IntD.of HN.out HM.out
   ·have HN : Hid (cmpQ f xs ys = 1) := Lib.hid (HT.out.symm.trans (cmpQ_endR f hlt (by omega)))
    have hkn : (ys.length : Int) ≤ (k : Int) := by omega
    clear HT
    go_wp2_with fail
    go_ret
    exact IntD.of HN.out hm
  ·have hke : xs.length ≤ k := by omega
   have HN := Lib.hid (HT.out.symm.trans (cmpQ_endL f hke))
   clear HT
   generalize cmpQ f xs ys = r at *
   have hkk : k = xs.length := by omega
   subst hkk
   by_cases hky : xs.length < ys.length
   ·have hky' : (xs.length : Int) < (ys.length : Int) := by omega
    have HN2 : Hid (r = -1) := Lib.hid (by rw [HN.out, if_pos hky])
    clear HN hke
    go_wp2_with fail
    go_ret
    exact IntD.of HN2.out hm
   ·have hky' : ¬ (xs.length : Int) < (ys.length : Int) := by omega
    have HN2 : Hid (r = 0) := Lib.hid (by rw [HN.out, if_neg hky])
    clear HN hke
    go_wp2_with fail
    go_ret
    exact IntD.of HN2.out hm

set_option maxRecDepth 100000 in
set_option maxHeartbeats 1000000 in
theorem signD_calls (w : World) (n : Int) : Calls Tryz.prog 92 #[.int .i64 n] w (IntD w (sgI n)) := by
 have HC : Hid (sgI n = if n < 0 then -1 else if 0 < n then 1 else 0) := Lib.hid rfl
 generalize sgI n = q at *
 by_cases h1 : n < 0
 ·have HQ : Hid (q = -1) := Lib.hid (by rw [HC.out, if_pos h1])
  clear HC
  go_enter Tryz.func92, Tryz.ntmps92
  go_wp2_with fail
  go_ret
  exact IntD.of HQ.out (ModD.refl _)
 ·by_cases h2 : 0 < n
  ·have HQ : Hid (q = 1) := Lib.hid (by rw [HC.out, if_neg h1, if_pos h2])
   clear HC
   go_enter Tryz.func92, Tryz.ntmps92
   go_wp2_with fail
   go_ret
   exact IntD.of HQ.out (ModD.refl _)
  ·have HQ : Hid (q = 0) := Lib.hid (by rw [HC.out, if_neg h1, if_neg h2])
   clear HC
   go_enter Tryz.func92, Tryz.ntmps92
   go_wp2_with fail
   go_ret
   exact IntD.of HQ.out (ModD.refl _)
theorem flagD_calls (w : World) (x : Bool) : Calls Tryz.prog 79 #[.bool x] w (IntD w (secI x)) := by
 cases x
 all_goals
  go_enter Tryz.func79, Tryz.ntmps79
  go_wp2_with fail
  go_ret
  exact IntD.of rfl (ModD.refl _)

end Go.Proofs.YtkkndblcejmmjaaGreatDoor

/- Values as rows of numbers: valueRow, valueOrder and Later of the reference. -/
namespace Go.Proofs.YtkkndblcejmmjaaGreatDoor
set_option linter.unusedVariables false
set_option linter.unusedSimpArgs false
open Go.RowKit

theorem info_intR : (Tryz.prog.info? 3).map (fun i => (i.zero, i.size, i.bytes)) = some (some (.int .i64 0), 1, 8) := by kernel_rfl
theorem info_intsR : (Tryz.prog.info? 22).map (fun i => (i.zero, i.size, i.bytes)) = some (some (.slice none 0 0), 1, 24) := by kernel_rfl
/-- Rows under way: each lies below bl. -/
def RzOk (W : World) (base bl : Nat) (A : Option Addr) (c : Nat) (rs : List RowZ) (R : List (List Int)) : Prop :=
 W.ownsRow base 22 1 (.slice A rs.length c) rs.length (rzV rs) ∧ (∀ r ∈ rs, Sl W 3 1 (.slice r.A r.zs.length r.c) (ints r.zs) ∧ ∀ g, (Value.slice r.A r.zs.length r.c).ownBlock = some g → g < bl) ∧ rs.map (·.zs) = R ∧ bl ≤ W.heap.size
section
variable {W W' : World} {base bl bl' c c5 n' : Nat} {A A5 : Option Addr} {rs : List RowZ} {R : List (List Int)}
theorem RzOk.pure (h : RzOk W base bl A c rs R) (hm : Pure W W') : RzOk W' base bl A c rs R := ⟨own_pure h.1 hm, fun r hr => ⟨(h.2.1 r hr).1.pure hm, (h.2.1 r hr).2⟩, h.2.2.1, Nat.le_trans h.2.2.2 hm.size⟩
theorem RzOk.up (h : RzOk W base bl A c rs R) (h1 : bl ≤ bl') (h2 : bl' ≤ W.heap.size) : RzOk W base bl' A c rs R := ⟨h.1, fun r hr => ⟨(h.2.1 r hr).1, fun g hg => Nat.lt_of_lt_of_le ((h.2.1 r hr).2 g hg) h1⟩, h.2.2.1, h2⟩
/-- Another row of numbers, from bl on, is written. -/
theorem RzOk.new {S : Nat → Prop} (h : RzOk W base bl A c rs R) (hm : Mod S W W') (h1 : ∀ g, S g → bl ≤ g) (h2 : ∀ g, (Value.slice A rs.length c).ownBlock = some g → ¬ S g) : RzOk W' base bl A c rs R :=
 ⟨own_mod h.1 hm h2, fun r hr => ⟨(h.2.1 r hr).1.mod_ob hm (fun g hg hs => by have := (h.2.1 r hr).2 g hg; have := h1 g hs; omega), (h.2.1 r hr).2⟩, h.2.2.1, Nat.le_trans h.2.2.2 hm.size⟩
theorem RzOk.app {x : RowZ} (h : RzOk W base bl A c rs R) (hx : Sl W 3 1 (.slice x.A x.zs.length x.c) (ints x.zs)) (hxb : ∀ g, (Value.slice x.A x.zs.length x.c).ownBlock = some g → g < W.heap.size) (hm : Mod (fun j => (Value.slice A rs.length c).ownBlock = some j) W W') (hn : n' = rs.length + 1)
  (hown : W'.ownsRow base 22 1 (.slice A5 n' c5) n' (rzV rs ++ [.slice x.A x.zs.length x.c])) : RzOk W' base W'.heap.size A5 c5 (rs ++ [x]) (R ++ [x.zs]) := by
 have hty : ∀ i arr fr, W.heap[i]? = some (.cells arr 3 fr) → ¬ (Value.slice A rs.length c).ownBlock = some i := fun i arr fr hi hv => absurd (own_ty h.1 hv hi) (by decide)
 have hsz := hm.size
 subst hn
 refine ⟨by simpa [rzV] using hown, fun r hr => ?_, by rw [List.map_append, h.2.2.1]; rfl, Nat.le_refl _⟩
 rcases List.mem_append.1 hr with hr | hr
 ·exact ⟨(h.2.1 r hr).1.mod hm hty, fun g hg => by have := (h.2.1 r hr).2 g hg; have := h.2.2.2; omega⟩
 ·rw [List.mem_singleton.1 hr]
  exact ⟨hx.mod hm hty, fun g hg => by have := hxb g hg; omega⟩
end
def RzPost (w : World) (R : List (List Int)) (e : Ending) (w' : World) : Prop := ∃ (A : Option Addr) (c : Nat) (rs : List RowZ), e = .returned (.slice A rs.length c) ∧ Sl w' 22 1 (.slice A rs.length c) (rzV rs) ∧ RzS w' rs ∧ rs.map (·.zs) = R ∧ ModD w w'
def RzRel (w : World) (base g1 : Nat) (lay : Array Value) (al : List AskR) (cs : List ChoR) (gk : Nat) (x i : Value) (wr : World) : Prop :=
 ∃ (k cap bl : Nat) (Ao : Option Addr) (rs : List RowZ), cs.length - k = gk ∧ k ≤ cs.length ∧ x = .slice Ao rs.length cap ∧ i = .int .i64 (k : Int) ∧ rs.length ≤ k ∧ RzOk wr base bl Ao cap rs ((cs.take k).map (rowV al)) ∧ Blk wr g1 29 lay ∧ ModD w wr ∧ base ≤ bl
def RiRel (w : World) (base bl g1 g7 : Nat) (lay box : Array Value) (Ao : Option Addr) (cap : Nat) (rs : List RowZ) (R : List (List Int)) (kx : Int) (ch xs : List Str) (gk : Nat) (x i : Value) (wr : World) : Prop :=
 ∃ (j cc : Nat) (Ac : Option Addr) (zs : List Int), xs.length - j = gk ∧ j ≤ xs.length ∧ x = .slice Ac zs.length cc ∧ i = .int .i64 (j : Int) ∧ zs = kx :: (xs.take j).map (ixS ch) ∧ wr.ownsRow bl 3 1 (.slice Ac zs.length cc) zs.length (ints zs) ∧ RzOk wr base bl Ao cap rs R ∧ Blk wr g1 29 lay ∧ Blk wr g7 105 box ∧ ModD w wr

set_option maxRecDepth 100000 in
set_option maxHeartbeats 8000000 in
theorem valueRow_calls (w : World) (vl : Value) (L : LayR) (A3 : Option Addr) (n3 c3 : Nat) (cs : List ChoR) (hL : LayV w L vl) (hLB : LayB L) (hV : Vals w (.slice A3 n3 c3) cs) (hn : cs.length ≤ 1000) (hz : ∀ x ∈ cs, x.ch.length ≤ 1000) (hk : ∀ x ∈ cs, 0 ≤ kIx L.asks x.field) : Calls Tryz.prog 143 #[vl, .slice A3 n3 c3] w (RzPost w (cs.map (rowV L.asks))) := by
 obtain ⟨A, n, c, A2, n2, c2, rfl, hA, hR⟩ := hL
 have hL : LayV w L (.agg #[.slice A n c, .slice A2 n2 c2]) := ⟨A, n, c, A2, n2, c2, rfl, hA, hR⟩
 have hl := hV.len
 subst hl
 have hla := hA.len
 subst hla
 have HA := Lib.hid (fun W (h : ModD w W) => hA.pure h.1)
 have HAK := Lib.hid (fun W (h : ModD w W) s => askAtD_calls W _ L s (hL.pure h.1))
 have HV := Lib.hid (fun W (h : ModD w W) => hV.pure h.1)
 have HKX := Lib.hid hk
 have HZ := Lib.hid hz
 have HLB := Lib.hid hLB
 have HB0 := Lib.hid (Blk.new w 29 #[.slice A L.asks.length c, .slice A2 n2 c2])
 have HM0 : Hid (ModD w (w.alloc (.cells #[.slice A L.asks.length c, .slice A2 n2 c2] 29))) := Lib.hid (ModD.alloc _ _)
 clear hA hR hL hLB hV hk hz
 go_enter Tryz.func143, Tryz.ntmps143
 go_upto_region 1 with (fail)
 have hz1 : (w.alloc (.cells #[.slice A L.asks.length c, .slice A2 n2 c2] 29)).heap.size = w.heap.size + 1 := by simp
 generalize (w.alloc (.cells #[.slice A L.asks.length c, .slice A2 n2 c2] 29)) = w1 at *
 generalize hg1 : w.heap.size = g1 at *
 have hwg1 := Nat.le_of_eq hg1
 clear hg1
 obtain ⟨base, hbase⟩ : ∃ base, base = w1.heap.size := ⟨_, rfl⟩
 have hs1 := Nat.le_of_eq hbase
 have hwb : w.heap.size ≤ base := by omega
 have hgb : g1 < base := by omega
 clear hbase hz1
 go_wp2_with fail
 go_loopg [5, 14] cs.length (fun gk x i wr => RzRel w base g1 #[.slice A L.asks.length c, .slice A2 n2 c2] L.asks cs gk x i wr)
 case atStart => exact ⟨0, 0, base, none, [], by omega, by omega, rfl, rfl, by simp, ⟨World.ownsRow_nil _ _ _ _, fun r h => absurd h (by simp), rfl, hs1⟩, HB0.out, HM0.out, Nat.le_refl _⟩
 case round =>
  clear HB0 HM0
  obtain ⟨k, cap, bl, Ao, rs, rfl, hk, rfl, rfl, hrk, hO, hB, hm, hbl⟩ := hrel
  by_cases hlt : k < cs.length
  ·obtain ⟨g, off, rfl, q0, q1⟩ := (HV.out _ hm).cells hlt
   have HXS := Lib.hid (fun W (h : ModD w W) => (HV.out _ h).2 _ (List.getElem_mem hlt))
   have hkx := HKX.out _ (List.getElem_mem hlt)
   have hzx := HZ.out _ (List.getElem_mem hlt)
   have HTK : Hid ((cs.take (k + 1)).map (rowV L.asks) = (cs.take k).map (rowV L.asks) ++ [rowV L.asks cs[k]]) := Lib.hid (by rw [List.take_succ_eq_append_getElem hlt, List.map_append]; rfl)
   generalize (cs.take k).map (rowV L.asks) = R at *
   generalize cs[k] = x at *
   obtain ⟨xf, xA, xc, xs⟩ := x
   simp only at q0 q1 HXS hkx hzx
   obtain ⟨kn, hka⟩ : ∃ kn, askIx L.asks xf = some kn := by
    cases h : askIx L.asks xf with
    | none => unfold kIx at hkx; rw [h] at hkx; exact absurd hkx (by decide)
    | some k => exact ⟨k, rfl⟩
   obtain ⟨hkl, hkf, hch, hkb⟩ := askIx_some hka
   have HROW : Hid (rowV L.asks ⟨xf, xA, xc, xs⟩ = (kn : Int) :: xs.map (ixS L.asks[kn].ch)) := Lib.hid (by
    show kIx L.asks xf :: xs.map (ixS (chAt L.asks xf)) = _
    rw [show kIx L.asks xf = (kn : Int) by unfold kIx; rw [hka], show chAt L.asks xf = L.asks[kn].ch by unfold chAt; rw [hch]; rfl])
   have HAKX : Hid (∀ W, ModD w W → Calls Tryz.prog 74 #[.agg #[.slice A L.asks.length c, .slice A2 n2 c2], .string ⟨xf.toArray⟩] W (IntD W (kn : Int))) := Lib.hid (fun W h => by
    have := HAK.out W h xf
    rwa [show askI L.asks xf = (kn : Int) by unfold askI; rw [hka]] at this)
   have hknL : (kn : Int) < (L.asks.length : Int) := by omega
   have hal := HLB.out.1
   have HX0 := Lib.hid (Blk.new wr 105 #[.string ⟨xf.toArray⟩, .slice xA xs.length xc])
   have HM1 := Lib.hid (hm.al (.cells #[.string ⟨xf.toArray⟩, .slice xA xs.length xc] 105))
   have HB1 := Lib.hid (hB.alloc (.cells #[.string ⟨xf.toArray⟩, .slice xA xs.length xc] 105))
   have HO1 := Lib.hid (hO.pure (pure_alloc _ (.cells #[.string ⟨xf.toArray⟩, .slice xA xs.length xc] 105)))
   clear hkx hka hkf hch hkb hO hB hm HKX HAK
   go_upto_region 5 with (fail)
   clear q0 q1
   generalize (wr.alloc (.cells #[.string ⟨xf.toArray⟩, .slice xA xs.length xc] 105)) = w2 at *
   generalize wr.heap.size = g7 at *
   clear wr
   have hX := HX0.out
   have hY := HB1.out
   have d0 := hX.cell 0; have d1 := hX.cell 1; simp at d0 d1
   have e0 := hY.cell 0; have e1 := hY.cell 1; simp at e0 e1
   clear hX hY
   go_wp2_with fail
   refine (HAKX.out _ HM1.out).mono ?_
   rintro e w3 ⟨rfl, hm3⟩
   have HM3 := Lib.hid (HM1.out.trans hm3)
   have HB3 := Lib.hid (HB1.out.modp hm3.1)
   have HX3 := Lib.hid (HX0.out.modp hm3.1)
   have HO3 := Lib.hid (HO1.out.pure hm3.1)
   clear hm3 d0 d1 e0 e1 HM1 HB1 HX0 HO1 HAKX w2
   go_upto_region 7 with (fail)
   have hbl3 := HO3.out.2.2.2
   have HM4 := Lib.hid (HM3.out.al (.cells #[.int .i64 (kn : Int)] 3))
   have HB4 := Lib.hid (HB3.out.alloc (.cells #[.int .i64 (kn : Int)] 3))
   have HX4 := Lib.hid (HX3.out.alloc (.cells #[.int .i64 (kn : Int)] 3))
   have HO4 := Lib.hid (HO3.out.pure (pure_alloc _ (.cells #[.int .i64 (kn : Int)] 3)))
   have HN4 : Hid ((w3.alloc (.cells #[.int .i64 (kn : Int)] 3)).ownsRow bl 3 1 (.slice (some ⟨w3.heap.size, 0, none⟩) 1 1) 1 (ints [(kn : Int)])) := Lib.hid ⟨rfl, .inr ⟨w3.heap.size, 1, #[.int .i64 (kn : Int)], rfl, hbl3, Blk.new w3 _ _, by omega, by decide, rfl, rfl⟩⟩
   clear HM3 HB3 HX3 HO3
   generalize (w3.alloc (.cells #[.int .i64 (kn : Int)] 3)) = w4 at *
   generalize w3.heap.size = g4 at *
   clear w3
   have hX := HX4.out
   have d0 := hX.cell 0; have d1 := hX.cell 1; simp at d0 d1
   clear hX
   go_wp2_with fail
   go_loopg [9, 27] xs.length (fun gk x i wr => RiRel w base bl g1 g7 #[.slice A L.asks.length c, .slice A2 n2 c2] #[.string ⟨xf.toArray⟩, .slice xA xs.length xc] Ao cap rs R (kn : Int) L.asks[kn].ch xs gk x i wr)
   case atStart => exact ⟨0, 1, some ⟨g4, 0, none⟩, [(kn : Int)], by omega, by omega, rfl, rfl, rfl, HN4.out, HO4.out, HB4.out, HX4.out, HM4.out⟩
   case round =>
    clear HM4 HB4 HX4 HO4 HN4 d0 d1
    obtain ⟨j, cc, Ac, zs, rfl, hj, rfl, rfl, hzs, hown, hO, hB, hX, hm⟩ := hrel
    have HZS := Lib.hid hzs
    have hzl : zs.length ≤ 2000 := by rw [hzs]; simp; omega
    have hzl0 : 0 < zs.length := by rw [hzs]; simp
    clear hzs
    by_cases hjl : j < xs.length
    ·obtain ⟨gx, ox, rfl, rx⟩ := (show ∃ gx ox, xA = some ⟨gx, ox, none⟩ ∧ RowAt wr 9 gx ox (strsV xs) from by
      obtain ⟨_, _, _, e1, _, _, _, h4⟩ := HXS.out _ hm
      cases e1
      exact h4 (by omega))
     have q1 := rx.cell (strsV_get xs j hjl)
     obtain ⟨ga, oa, rfl, a0, a1, a2, a3⟩ := (HA.out _ hm).cells hkl
     have hel : Sl wr 9 1 (.slice L.asks[kn].A L.asks[kn].ch.length L.asks[kn].c) (strsV L.asks[kn].ch) := (HA.out _ hm).2 _ (List.getElem_mem hkl)
     have HIX := Lib.hid (indexQsD_calls wr _ L.asks[kn].ch xs[j] hel)
     simp only [ixS_idx] at HIX
     have HTJ : Hid (zs ++ [ixS L.asks[kn].ch xs[j]] = (kn : Int) :: (xs.take (j + 1)).map (ixS L.asks[kn].ch)) := Lib.hid (by rw [HZS.out, List.take_succ_eq_append_getElem hjl, List.map_append]; rfl)
     have hjc : (j : Int) < (xs.length : Int) := by omega
     have hYb := hB
     have hYx := hX
     have HOW := Lib.hid hown
     have HO := Lib.hid hO
     have HB := Lib.hid hB
     have HX := Lib.hid hX
     have HM := Lib.hid hm
     clear rx hel HZS hown hO hB hX hm
     have d0 := hYb.cell 0; have d1 := hYb.cell 1; simp at d0 d1
     clear hYb hYx a0 a2 a3
     generalize L.asks[kn].ch = ch at *
     generalize ixS ch xs[j] = zi at *
     generalize xs[j] = s at *
     go_wp2_with fail
     refine HIX.out.mono ?_
     rintro e w5 ⟨rfl, hm5⟩
     have hownO := own_pure HOW.out hm5.1
     have hmO := (HM.out.trans hm5).1
     have HM5 := Lib.hid (HM.out.trans hm5)
     have HO5 := Lib.hid (HO.out.pure hm5.1)
     have HB5 := Lib.hid (HB.out.modp hm5.1)
     have HX5 := Lib.hid (HX.out.modp hm5.1)
     have hbl5 := HO5.out.2.2.2
     obtain ⟨i0, hi0, hz0, hz1, hz2⟩ := info_parts info_intR
     clear HOW HM HO HB HX hm5 d0 d1 q1 a1
     go_wp2_with ((at_builtin; refine wpList_append_liesD _ rfl _ _ _ rfl bl 3 i0 _ 1 8 Tryz.underlying22 hi0 hz0 hz1 hz2 rfl (by omega) (.slice Ac zs.length cc) zs.length (ints zs) rfl (hownO.alloc _) ⟨w5.heap.size, 0, none⟩ 1 1 [.int .i64 zi] rfl rfl (World.news_of_block (cs := #[.int .i64 zi]) (t := 3) (fr := (0, 0)) (heap_alloc_new w5 _)) (by simp [Value.oneCell']) (by omega) (by simp [maxLen]; omega) (by omega) (by have := hmO.size; simp; omega) (w5.heap.size + 1) (by simp) ?_; intro g5 cap5 w5 hown5 hgrow hat hlt5 hdr5))
     have mG := mod_grown hgrow
     have hob := own_block hownO
     have hzz := mG.size
     simp only [World.size_alloc] at hzz
     go_roundg (xs.length - (j + 1))
     case measure => omega
     case rel =>
      refine ⟨j + 1, cap5, some ⟨g5, 0, none⟩, zs ++ [zi], rfl, by omega, by simp, by simp, HTJ.out, by simpa [ints] using hown5, (HO5.out.pure (pure_alloc _ (.cells #[.int .i64 zi] 3))).new mG (fun g hg => hob g hg) (fun g hg hs => ?_), (HB5.out.alloc (.cells #[.int .i64 zi] 3)).mod mG (fun hs => ?_), (HX5.out.alloc (.cells #[.int .i64 zi] 3)).mod mG (fun hs => ?_), ⟨(HM5.out.1.alloc _).grown hgrow (fun i hi => .inr (by have := hob i hi; omega)), Nat.le_trans HM5.out.2 hdr5⟩⟩
      ·obtain ⟨arr, ha⟩ := own_heap (HO5.out.pure (pure_alloc _ (.cells #[.int .i64 zi] 3))).1 hg
       exact absurd (own_ty (hownO.alloc (.cells #[.int .i64 zi] 3)) hs ha) (by decide)
      ·have h3 := HB5.out.alloc (.cells #[.int .i64 zi] 3); unfold Blk at h3; exact absurd (own_ty (hownO.alloc (.cells #[.int .i64 zi] 3)) hs h3) (by decide)
      ·have h3 := HX5.out.alloc (.cells #[.int .i64 zi] 3); unfold Blk at h3; exact absurd (own_ty (hownO.alloc (.cells #[.int .i64 zi] 3)) hs h3) (by decide)
    ·have hje : j = xs.length := by omega
     have HZE : Hid (zs = rowV L.asks ⟨xf, xA, xc, xs⟩) := Lib.hid (by rw [HROW.out, HZS.out, List.take_of_length_le (by omega)])
     have HM := Lib.hid hm
     have HO := Lib.hid hO
     have HB := Lib.hid hB
     have HOW := Lib.hid hown
     have hownO := hO.1
     have hmO := hm.1
     have hbr : base ≤ wr.heap.size := by have := hO.2.2.2; omega
     have hrl : rs.length ≤ 1000 := by omega
     obtain ⟨i0, hi0, hz0, hz1, hz2⟩ := info_parts info_intsR
     clear hown hO hB hX hm HZS HROW
     subst hje
     go_wp2_with ((at_builtin; refine wpList_append_liesD _ rfl _ _ _ rfl base 22 i0 _ 1 24 Tryz.underlying183 hi0 hz0 hz1 hz2 rfl (by omega) (.slice Ao rs.length cap) rs.length (rzV rs) rfl (hownO.alloc _) ⟨wr.heap.size, 0, none⟩ 1 1 [.slice Ac zs.length cc] rfl rfl (World.news_of_block (cs := #[.slice Ac zs.length cc]) (t := 22) (fr := (0, 0)) (heap_alloc_new wr _)) (by simp [Value.oneCell']) (by omega) (by simp [maxLen]; omega) (by omega) (by have := hmO.size; simp; omega) (wr.heap.size + 1) (by simp) ?_; intro g5 cap5 w5 hown5 hgrow hat hlt5 hdr5))
     have mG := mod_grown hgrow
     have hob := own_block hownO
     have hoa := hownO.alloc (.cells #[.slice Ac zs.length cc] 22)
     have hzz := mG.size
     simp only [World.size_alloc] at hzz
     go_roundg (cs.length - (k + 1))
     case measure => omega
     case rel =>
      refine ⟨k + 1, cap5, w5.heap.size, some ⟨g5, 0, none⟩, rs ++ [⟨Ac, cc, zs⟩], rfl, by omega, by simp, by simp, by simp; omega, ?_, (HB.out.alloc (.cells #[.slice Ac zs.length cc] 22)).mod mG (fun hs => ?_), ⟨(HM.out.1.alloc _).grown hgrow (fun i hi => .inr (by have := hob i hi; omega)), Nat.le_trans HM.out.2 hdr5⟩, by omega⟩
      ·rw [HTK.out, ← HZE.out]
       exact (HO.out.pure (pure_alloc _ (.cells #[.slice Ac zs.length cc] 22))).app (x := ⟨Ac, cc, zs⟩) ((Sl.of_own HOW.out).pure (pure_alloc _ _)) (fun g hg => by have := (HOW.out.lt g hg).2; simp; omega) mG rfl hown5
      ·have h3 := HB.out.alloc (.cells #[.slice Ac zs.length cc] 22); unfold Blk at h3; exact absurd (own_ty hoa hs h3) (by decide)
  ·have hke : k = cs.length := by omega
   have HTZ : Hid (cs.take k = cs) := Lib.hid (List.take_of_length_le (by omega))
   have HO := Lib.hid hO
   have HM := Lib.hid hm
   clear hO hm hB
   go_wp2_with fail
   go_ret
   exact ⟨Ao, cap, rs, rfl, Sl.of_own HO.out.1, fun r hr => (HO.out.2.1 r hr).1, by have := HO.out.2.2.1; rwa [HTZ.out] at this, HM.out⟩

end Go.Proofs.YtkkndblcejmmjaaGreatDoor

/- valueOrder and Later of the reference. -/
namespace Go.Proofs.YtkkndblcejmmjaaGreatDoor
set_option linter.unusedVariables false
set_option linter.unusedSimpArgs false
open Go.RowKit

theorem cmpQ_mapR (f : List Int → List Int → Int) : ∀ (rs us : List RowZ), cmpQ (fun x y => f x.zs y.zs) rs us = cmpQ f (rs.map (·.zs)) (us.map (·.zs))
 | [], [] => rfl
 | [], _ :: _ => rfl
 | _ :: _, [] => rfl
 | x :: s, y :: t => by
  show (if f x.zs y.zs ≠ 0 then f x.zs y.zs else cmpQ (fun x y => f x.zs y.zs) s t) = if f x.zs y.zs ≠ 0 then f x.zs y.zs else cmpQ f (s.map (·.zs)) (t.map (·.zs))
  rw [cmpQ_mapR f s t]
/-- Rows of numbers in memory. -/
def RzK (W : World) (v : Value) (rs : List RowZ) : Prop := Sl W 22 1 v (rzV rs) ∧ RzS W rs
theorem RzK.pure {W W' : World} {v : Value} {rs : List RowZ} (h : RzK W v rs) (hm : Pure W W') : RzK W' v rs := ⟨h.1.pure hm, fun r hr => (h.2 r hr).pure hm⟩

set_option maxRecDepth 100000 in
set_option maxHeartbeats 8000000 in
theorem valueOrder_calls (w : World) (vl : Value) (L : LayR) (A3 A4 : Option Addr) (n3 c3 n4 c4 : Nat) (cs ds : List ChoR) (hL : LayV w L vl) (hLB : LayB L) (h1 : Vals w (.slice A3 n3 c3) cs) (h2 : Vals w (.slice A4 n4 c4) ds) (hz1 : ValB cs) (hz2 : ValB ds) (hk1 : ∀ x ∈ cs, 0 ≤ kIx L.asks x.field) (hk2 : ∀ x ∈ ds, 0 ≤ kIx L.asks x.field) :
  Calls Tryz.prog 93 #[vl, .slice A3 n3 c3, .slice A4 n4 c4] w (IntD w (ordR L.asks cs ds)) := by
 have HV1 := Lib.hid (fun W (h : ModD w W) => valueRow_calls W vl L A3 n3 c3 cs (hL.pure h.1) hLB (h1.pure h.1) (by have := hz1.1; omega) (fun x hx => by have := (hz1.2 x hx).2.1; omega) hk1)
 have HV2 := Lib.hid (fun W (h : ModD w W) => valueRow_calls W vl L A4 n4 c4 ds (hL.pure h.1) hLB (h2.pure h.1) (by have := hz2.1; omega) (fun x hx => by have := (hz2.2 x hx).2.1; omega) hk2)
 have HQ : Hid (ordR L.asks cs ds = cmpQ (cmpQ cmpZ) (cs.map (rowV L.asks)) (ds.map (rowV L.asks))) := Lib.hid rfl
 obtain ⟨A, n, c, A2, n2, c2, rfl, _, _⟩ := hL
 have HB := Lib.hid (Blk.new w 29 #[.slice A n c, .slice A2 n2 c2])
 have HP : Hid (ModD w (w.alloc (.cells #[.slice A n c, .slice A2 n2 c2] 29))) := Lib.hid (ModD.alloc _ _)
 generalize ordR L.asks cs ds = q at *
 generalize cs.map (rowV L.asks) = R1 at *
 generalize ds.map (rowV L.asks) = R2 at *
 clear hLB h1 h2 hz1 hz2 hk1 hk2
 go_enter Tryz.func93, Tryz.ntmps93
 go_upto_region 1 with (fail)
 generalize (w.alloc (.cells #[.slice A n c, .slice A2 n2 c2] 29)) = w2 at *
 generalize w.heap.size = g3 at *
 have HGs := Lib.hid (show ∀ (D : Nat → Bool) (zzi : Nat) (zq zq' : World), (fun _ zq => (fun Z => ModD w2 Z) zq) D zq → ModD zq zq' → (fun _ zq => (fun Z => ModD w2 Z) zq) (upd D zzi true) zq' from by intro D zzi zq zq' h hm; (exact h.trans hm))
 refine wp_region_inv (by kernel_rfl) (by kernel_rfl) (InvF (R := ModD) [.is (.agg #[.slice A n c, .slice A2 n2 c2]),
   .is (.slice A3 n3 c3),
   ⟨fun zv zw => ∃ (A_2 : Option Addr) (c_2 : Nat) (rs_2 : List RowZ), zv = .slice A_2 rs_2.length c_2 ∧ rs_2.map (·.zs) = R1 ∧ RzK zw (.slice A_2 rs_2.length c_2) rs_2, (by rintro zv zw zx ⟨A_2, c_2, rs_2, rfl, c0, q0⟩ hm; exact ⟨A_2, c_2, rs_2, rfl, c0, (q0.pure hm.1)⟩), none, none⟩,
   .is (.agg #[.slice A n c, .slice A2 n2 c2]),
   .is (.slice A4 n4 c4),
   ⟨fun zv zw => ∃ (A_5 : Option Addr) (c_5 : Nat) (rs_5 : List RowZ), zv = .slice A_5 rs_5.length c_5 ∧ rs_5.map (·.zs) = R2 ∧ RzK zw (.slice A_5 rs_5.length c_5) rs_5, (by rintro zv zw zx ⟨A_5, c_5, rs_5, rfl, c0, q0⟩ hm; exact ⟨A_5, c_5, rs_5, rfl, c0, (q0.pure hm.1)⟩), none, none⟩,
   .is (.int .i64 q),
   .is (.int .i64 q)]
   (PB w (fun _ => False) w2.heap.size (fun _ zq => (fun Z => ModD w2 Z) zq))) (InvF.start (PB.start HP.out.1 (Nat.le_refl _) (((ModD.refl _).drewN 1)))) ?_ ?_
 ·refine .cons ?_ (.cons ?_ (.cons ?_ (.cons ?_ (.cons ?_ (.cons ?_ (.cons ?_ (.cons ?_ .nil)))))))
  ·intro D V zw1 a hR hI K hK
   obtain ⟨hM1, hB1, hG1⟩ := hI.1
   have ze3 := hR.frame.other (t := 3) (by kernel_rfl) rfl
   have zb := HB.out.modp hG1.1
   have zx0 := zb.cell 0; have zx1 := zb.cell 1
   simp at zx0 zx1
   rw [if_pos (by rfl)]
   go_simp
   exact hK (.agg #[.slice A n c, .slice A2 n2 c2]) _ (hI.next hR (by kernel_rfl) (ModD.refl _) (PB.quiet hI.1 (Mod.refl _ _) (HGs.out D 0 zw1 zw1 (hI.1).g (ModD.refl _))) (upd_same V 0 _))
  ·intro D V zw1 a hR hI K hK
   obtain ⟨hM1, hB1, hG1⟩ := hI.1
   have ze1 := hR.frame.other (t := 1) (by kernel_rfl) rfl
   rw [if_pos (by rfl)]
   go_simp
   exact hK (.slice A3 n3 c3) _ (hI.next hR (by kernel_rfl) (ModD.refl _) (PB.quiet hI.1 (Mod.refl _ _) (HGs.out D 1 zw1 zw1 (hI.1).g (ModD.refl _))) (upd_same V 1 _))
  ·intro D V zw1 a hR hI K hK
   obtain ⟨hM1, hB1, hG1⟩ := hI.1
   have zd0 := hR.pred 0 (by kernel_rfl)
   have zF0 : V 0 = .agg #[.slice A n c, .slice A2 n2 c2] := hI.2 0 zd0 rfl
   have zf0 := zF0; clear zF0
   have zd1 := hR.pred 1 (by kernel_rfl)
   have zF1 : V 1 = .slice A3 n3 c3 := hI.2 1 zd1 rfl
   have zf1 := zF1; clear zF1
   have ze7 := hR.frame.done (t := 7) (j := 0) (by kernel_rfl) hR.ok zd0
   have ze8 := hR.frame.done (t := 8) (j := 1) (by kernel_rfl) hR.ok zd1
   rw [if_pos (by rfl)]
   go_simp
   refine (HV1.out zw1 (HP.out.trans hG1)).mono ?_
   rintro e zw2 ⟨A_0, c_0, rs_0, rfl, hs1, hs2, he, hm2⟩
   exact hK (.slice A_0 rs_0.length c_0) _ (hI.next hR (by kernel_rfl) hm2 (PB.quiet hI.1 hm2.1 (HGs.out D 2 _ _ (hI.1).g hm2)) (⟨A_0, c_0, rs_0, upd_same V 2 _, he, ⟨hs1, hs2⟩⟩))
  ·intro D V zw1 a hR hI K hK
   obtain ⟨hM1, hB1, hG1⟩ := hI.1
   have ze3 := hR.frame.other (t := 3) (by kernel_rfl) rfl
   have zb := HB.out.modp hG1.1
   have zx0 := zb.cell 0; have zx1 := zb.cell 1
   simp at zx0 zx1
   rw [if_pos (by rfl)]
   go_simp
   exact hK (.agg #[.slice A n c, .slice A2 n2 c2]) _ (hI.next hR (by kernel_rfl) (ModD.refl _) (PB.quiet hI.1 (Mod.refl _ _) (HGs.out D 3 zw1 zw1 (hI.1).g (ModD.refl _))) (upd_same V 3 _))
  ·intro D V zw1 a hR hI K hK
   obtain ⟨hM1, hB1, hG1⟩ := hI.1
   have ze2 := hR.frame.other (t := 2) (by kernel_rfl) rfl
   rw [if_pos (by rfl)]
   go_simp
   exact hK (.slice A4 n4 c4) _ (hI.next hR (by kernel_rfl) (ModD.refl _) (PB.quiet hI.1 (Mod.refl _ _) (HGs.out D 4 zw1 zw1 (hI.1).g (ModD.refl _))) (upd_same V 4 _))
  ·intro D V zw1 a hR hI K hK
   obtain ⟨hM1, hB1, hG1⟩ := hI.1
   have zd3 := hR.pred 3 (by kernel_rfl)
   have zF3 : V 3 = .agg #[.slice A n c, .slice A2 n2 c2] := hI.2 3 zd3 rfl
   have zf3 := zF3; clear zF3
   have zd4 := hR.pred 4 (by kernel_rfl)
   have zF4 : V 4 = .slice A4 n4 c4 := hI.2 4 zd4 rfl
   have zf4 := zF4; clear zF4
   have ze10 := hR.frame.done (t := 10) (j := 3) (by kernel_rfl) hR.ok zd3
   have ze11 := hR.frame.done (t := 11) (j := 4) (by kernel_rfl) hR.ok zd4
   rw [if_pos (by rfl)]
   go_simp
   refine (HV2.out zw1 (HP.out.trans hG1)).mono ?_
   rintro e zw2 ⟨A_0, c_0, rs_0, rfl, hs1, hs2, he, hm2⟩
   exact hK (.slice A_0 rs_0.length c_0) _ (hI.next hR (by kernel_rfl) hm2 (PB.quiet hI.1 hm2.1 (HGs.out D 5 _ _ (hI.1).g hm2)) (⟨A_0, c_0, rs_0, upd_same V 5 _, he, ⟨hs1, hs2⟩⟩))
  ·intro D V zw1 a hR hI K hK
   obtain ⟨hM1, hB1, hG1⟩ := hI.1
   have zd2 := hR.pred 2 (by kernel_rfl)
   have zF2 : ∃ (A_2 : Option Addr) (c_2 : Nat) (rs_2 : List RowZ), V 2 = .slice A_2 rs_2.length c_2 ∧ rs_2.map (·.zs) = R1 ∧ RzK zw1 (.slice A_2 rs_2.length c_2) rs_2 := hI.2 2 zd2 rfl
   obtain ⟨A_2, c_2, rs_2, zf2, c2_0, b2_0⟩ := zF2
   have zd5 := hR.pred 5 (by kernel_rfl)
   have zF5 : ∃ (A_5 : Option Addr) (c_5 : Nat) (rs_5 : List RowZ), V 5 = .slice A_5 rs_5.length c_5 ∧ rs_5.map (·.zs) = R2 ∧ RzK zw1 (.slice A_5 rs_5.length c_5) rs_5 := hI.2 5 zd5 rfl
   obtain ⟨A_5, c_5, rs_5, zf5, c5_0, b5_0⟩ := zF5
   have ze9 := hR.frame.done (t := 9) (j := 2) (by kernel_rfl) hR.ok zd2
   have ze12 := hR.frame.done (t := 12) (j := 5) (by kernel_rfl) hR.ok zd5
   rw [if_pos (by rfl)]
   go_simp
   refine (compR_calls zw1 _ _ rs_2 rs_5 144 (fun x y => cmpQ cmpZ x.zs y.zs) b2_0.1 b5_0.1 (fun _ _ _ => rfl) (fun x y W hx hy hw => compI_calls W _ _ x.zs y.zs ((b2_0.2 x hx).pure hw.1) ((b5_0.2 y hy).pure hw.1))).mono ?_
   rintro e zw2 ⟨he, hm2⟩
   have hq : cmpQ (fun x y => cmpQ cmpZ x.zs y.zs) rs_2 rs_5 = q := by rw [cmpQ_mapR, c2_0, c5_0, ← HQ.out]
   rw [hq] at he
   subst he
   exact hK (.int .i64 q) _ (hI.next hR (by kernel_rfl) hm2 (PB.quiet hI.1 hm2.1 (HGs.out D 6 _ _ (hI.1).g hm2)) (upd_same V 6 _))
  ·intro D V zw1 a hR hI K hK
   obtain ⟨hM1, hB1, hG1⟩ := hI.1
   have zd6 := hR.pred 6 (by kernel_rfl)
   have zF6 : V 6 = .int .i64 q := hI.2 6 zd6 rfl
   have zf6 := zF6; clear zF6
   have ze13 := hR.frame.done (t := 13) (j := 6) (by kernel_rfl) hR.ok zd6
   rw [if_pos (by rfl)]
   go_simp
   exact hK (.int .i64 q) _ (hI.next hR (by kernel_rfl) (ModD.refl _) (PB.quiet hI.1 (Mod.refl _ _) (HGs.out D 7 zw1 zw1 (hI.1).g (ModD.refl _))) (upd_same V 7 _))
 ·intro D V w3 hD hI
  obtain ⟨hM1, hB1, hG1⟩ := hI.1
  have hMx := hM1
  clear hM1
  have hBx := hB1
  clear hB1
  have hGx := hG1
  clear hG1
  have zF0 : V 0 = .agg #[.slice A n c, .slice A2 n2 c2] := hI.2 0 (hD 0 (by decide)) rfl
  have zf0 := zF0; clear zF0
  have zF1 : V 1 = .slice A3 n3 c3 := hI.2 1 (hD 1 (by decide)) rfl
  have zf1 := zF1; clear zF1
  have zF2 : ∃ (A_2 : Option Addr) (c_2 : Nat) (rs_2 : List RowZ), V 2 = .slice A_2 rs_2.length c_2 ∧ rs_2.map (·.zs) = R1 ∧ RzK w3 (.slice A_2 rs_2.length c_2) rs_2 := hI.2 2 (hD 2 (by decide)) rfl
  obtain ⟨A_2, c_2, rs_2, zf2, c2_0, b2_0⟩ := zF2
  have zF3 : V 3 = .agg #[.slice A n c, .slice A2 n2 c2] := hI.2 3 (hD 3 (by decide)) rfl
  have zf3 := zF3; clear zF3
  have zF4 : V 4 = .slice A4 n4 c4 := hI.2 4 (hD 4 (by decide)) rfl
  have zf4 := zF4; clear zF4
  have zF5 : ∃ (A_5 : Option Addr) (c_5 : Nat) (rs_5 : List RowZ), V 5 = .slice A_5 rs_5.length c_5 ∧ rs_5.map (·.zs) = R2 ∧ RzK w3 (.slice A_5 rs_5.length c_5) rs_5 := hI.2 5 (hD 5 (by decide)) rfl
  obtain ⟨A_5, c_5, rs_5, zf5, c5_0, b5_0⟩ := zF5
  have zF6 : V 6 = .int .i64 q := hI.2 6 (hD 6 (by decide)) rfl
  have zf6 := zF6; clear zF6
  have zF7 : V 7 = .int .i64 q := hI.2 7 (hD 7 (by decide)) rfl
  have zf7 := zF7; clear zF7
  clear hI hD HGs
  simp only [frAll, Act.put, List.setIfInBounds_toArray, List.set_cons_zero, List.set_cons_succ, Nat.zero_add, Nat.reduceAdd, zf0, zf1, zf2, zf3, zf4, zf5, zf6, zf7]
  clear zf0 zf1 zf2 zf3 zf4 zf5 zf6 zf7
  clear V D
  go_wp2_with fail
  go_ret
  exact IntD.of rfl (HP.out.trans hGx)

end Go.Proofs.YtkkndblcejmmjaaGreatDoor

/- The comparison of merged decisions: the program's. -/
namespace Go.Proofs.YtkkndblcejmmjaaGreatDoor
set_option linter.unusedVariables false
set_option linter.unusedSimpArgs false
open Go.RowKit

theorem or5 (a b c d e : Int) : firstErr [a, b, c, d, e] = or2 a (or2 b (or2 c (or2 d e))) := by
 rw [← or4]
 unfold or2
 simp only [firstErr]
 by_cases ha : a = 0 <;> by_cases hb : b = 0 <;> by_cases hc : c = 0 <;> by_cases hd : d = 0 <;> by_cases he : e = 0 <;> simp [ha, hb, hc, hd, he]
set_option maxRecDepth 100000 in
set_option maxHeartbeats 8000000 in
theorem mrg1_calls (w : World) (gl : Nat) (L : LayR) (A A2 : Option Addr) (n c n2 c2 : Nat) (x y : DecR) (hB : Blk w gl 29 #[.slice A n c, .slice A2 n2 c2]) (hL : LayV w L (.agg #[.slice A n c, .slice A2 n2 c2])) (hLB : LayB L) (hx : DecEl w x) (hy : DecEl w y) (hxz : DecB x) (hyz : DecB y) (hk : ∀ z ∈ x.vals, 0 ≤ kIx L.asks z.field) : Calls Tryz.prog 80 #[DecVal x, DecVal y, .pointer (some ⟨gl, 0, none⟩)] w (IntD w (cmpM L.asks x y)) := by
 have HQ : Hid (cmpM L.asks x y = or2 (x.at_ - y.at_) (or2 (Lib.compareBytes x.item y.item) (or2 (Lib.compareBytes x.rev y.rev) (or2 (secI x.sec - secI y.sec) (ordV L.asks x.vals y.vals))))) := Lib.hid rfl
 have HSX := Lib.hid (fun W => second_calls W x)
 have HSY := Lib.hid (fun W => second_calls W y)
 have HOR := Lib.hid (fun W (h : ModD w W) => order_calls W _ _ _ L x.vals y.vals (hL.pure h.1) hLB (hx.pure h.1) (hy.pure h.1) hk)
 have hb1 := hxz.2.2.1
 have hb2 := hxz.2.2.2.1
 have hb3 := hyz.2.2.1
 have hb4 := hyz.2.2.2.1
 obtain ⟨xno, xat, xrev, xitem, xsec, xA, xc, xs⟩ := x
 obtain ⟨yno, yat, yrev, yitem, ysec, yA, yc, ys⟩ := y
 simp only [DecVal.eq] at *
 have HP : Hid (ModD w ((w.alloc (.cells #[.int .i64 xno, .int .i64 xat, .string ⟨xrev.toArray⟩, .string ⟨xitem.toArray⟩, .bool xsec, .slice xA xs.length xc] 40)).alloc (.cells #[.int .i64 yno, .int .i64 yat, .string ⟨yrev.toArray⟩, .string ⟨yitem.toArray⟩, .bool ysec, .slice yA ys.length yc] 40))) := Lib.hid ((ModD.alloc _ _).al _)
 have HB1 := Lib.hid ((hB.alloc (.cells #[.int .i64 xno, .int .i64 xat, .string ⟨xrev.toArray⟩, .string ⟨xitem.toArray⟩, .bool xsec, .slice xA xs.length xc] 40)).alloc (.cells #[.int .i64 yno, .int .i64 yat, .string ⟨yrev.toArray⟩, .string ⟨yitem.toArray⟩, .bool ysec, .slice yA ys.length yc] 40))
 have HB2 := Lib.hid ((Blk.new w 40 #[.int .i64 xno, .int .i64 xat, .string ⟨xrev.toArray⟩, .string ⟨xitem.toArray⟩, .bool xsec, .slice xA xs.length xc]).alloc (.cells #[.int .i64 yno, .int .i64 yat, .string ⟨yrev.toArray⟩, .string ⟨yitem.toArray⟩, .bool ysec, .slice yA ys.length yc] 40))
 have HB3 := Lib.hid (Blk.snd w (.cells #[.int .i64 xno, .int .i64 xat, .string ⟨xrev.toArray⟩, .string ⟨xitem.toArray⟩, .bool xsec, .slice xA xs.length xc] 40) 40 #[.int .i64 yno, .int .i64 yat, .string ⟨yrev.toArray⟩, .string ⟨yitem.toArray⟩, .bool ysec, .slice yA ys.length yc])
 generalize cmpM L.asks _ _ = q at *
 generalize ordV L.asks xs ys = qo at *
 clear hLB hx hy hxz hyz hk hB hL
 go_enter Tryz.func80, Tryz.ntmps80
 go_upto_region 1 with (fail)
 generalize ((w.alloc (.cells #[.int .i64 xno, .int .i64 xat, .string ⟨xrev.toArray⟩, .string ⟨xitem.toArray⟩, .bool xsec, .slice xA xs.length xc] 40)).alloc (.cells #[.int .i64 yno, .int .i64 yat, .string ⟨yrev.toArray⟩, .string ⟨yitem.toArray⟩, .bool ysec, .slice yA ys.length yc] 40)) = w2 at *
 generalize w.heap.size = g3 at *
 have hw1 : IntKind.i64.wrap (xat - yat) = xat - yat := IntWalk.i64_in _ (by omega)
 have hw2 : IntKind.i64.wrap (secI xsec - secI ysec) = secI xsec - secI ysec := by cases xsec <;> cases ysec <;> rfl
 generalize secI xsec = sx at *
 generalize secI ysec = sy at *
 have HGs := Lib.hid (show ∀ (D : Nat → Bool) (zzi : Nat) (zq zq' : World), (fun _ zq => (fun Z => ModD w2 Z) zq) D zq → ModD zq zq' → (fun _ zq => (fun Z => ModD w2 Z) zq) (upd D zzi true) zq' from by intro D zzi zq zq' h hm; (exact h.trans hm))
 refine wp_region_inv (by kernel_rfl) (by kernel_rfl) (InvF (R := ModD) [.is (.pointer (some ⟨g3, 1, none⟩)),
   .is (.int .i64 xat),
   .is (.pointer (some ⟨g3 + 1, 1, none⟩)),
   .is (.int .i64 yat),
   .is (.int .i64 (xat - yat)),
   .is (.pointer (some ⟨g3, 3, none⟩)),
   .is (.string ⟨xitem.toArray⟩),
   .is (.pointer (some ⟨g3 + 1, 3, none⟩)),
   .is (.string ⟨yitem.toArray⟩),
   .is (.int .i64 (Lib.compareBytes xitem yitem)),
   .is (.pointer (some ⟨g3, 2, none⟩)),
   .is (.string ⟨xrev.toArray⟩),
   .is (.pointer (some ⟨g3 + 1, 2, none⟩)),
   .is (.string ⟨yrev.toArray⟩),
   .is (.int .i64 (Lib.compareBytes xrev yrev)),
   .is (.agg #[.int .i64 xno, .int .i64 xat, .string ⟨xrev.toArray⟩, .string ⟨xitem.toArray⟩, .bool xsec, .slice xA xs.length xc]),
   .is (.int .i64 sx),
   .is (.agg #[.int .i64 yno, .int .i64 yat, .string ⟨yrev.toArray⟩, .string ⟨yitem.toArray⟩, .bool ysec, .slice yA ys.length yc]),
   .is (.int .i64 sy),
   .is (.int .i64 (sx - sy)),
   .is (.agg #[.slice A n c, .slice A2 n2 c2]),
   .is (.pointer (some ⟨g3, 5, none⟩)),
   .is (.slice xA xs.length xc),
   .is (.pointer (some ⟨g3 + 1, 5, none⟩)),
   .is (.slice yA ys.length yc),
   .is (.int .i64 qo),
   ⟨fun zv zw => ∃ (g_26 : Nat), zv = .slice (some ⟨g_26, 0, none⟩) 5 5 ∧ w2.heap.size ≤ g_26 ∧ Blk zw g_26 3 #[.int .i64 (xat - yat), .int .i64 (Lib.compareBytes xitem yitem), .int .i64 (Lib.compareBytes xrev yrev), .int .i64 (sx - sy), .int .i64 qo], (by rintro zv zw zx ⟨g_26, rfl, c0, q0⟩ hm; exact ⟨g_26, rfl, c0, (q0.modp hm.1)⟩), none, some 27⟩,
   .is (.int .i64 (firstErr [xat - yat, Lib.compareBytes xitem yitem, Lib.compareBytes xrev yrev, sx - sy, qo])),
   .is (.int .i64 (firstErr [xat - yat, Lib.compareBytes xitem yitem, Lib.compareBytes xrev yrev, sx - sy, qo]))]
   (PB w (fun _ => False) w2.heap.size (fun _ zq => (fun Z => ModD w2 Z) zq))) (InvF.start (PB.start HP.out.1 (Nat.le_refl _) (((ModD.refl _).drewN 1)))) ?_ ?_
 ·refine .cons ?_ (.cons ?_ (.cons ?_ (.cons ?_ (.cons ?_ (.cons ?_ (.cons ?_ (.cons ?_ (.cons ?_ (.cons ?_ (.cons ?_ (.cons ?_ (.cons ?_ (.cons ?_ (.cons ?_ (.cons ?_ (.cons ?_ (.cons ?_ (.cons ?_ (.cons ?_ (.cons ?_ (.cons ?_ (.cons ?_ (.cons ?_ (.cons ?_ (.cons ?_ (.cons ?_ (.cons ?_ (.cons ?_ .nil))))))))))))))))))))))))))))
  ·intro D V zw1 a hR hI K hK
   obtain ⟨hM1, hB1, hG1⟩ := hI.1
   have ze3 := hR.frame.other (t := 3) (by kernel_rfl) rfl
   rw [if_pos (by rfl)]
   go_simp
   exact hK (.pointer (some ⟨g3, 1, none⟩)) _ (hI.next hR (by kernel_rfl) (ModD.refl _) (PB.quiet hI.1 (Mod.refl _ _) (HGs.out D 0 zw1 zw1 (hI.1).g (ModD.refl _))) (upd_same V 0 _))
  ·intro D V zw1 a hR hI K hK
   obtain ⟨hM1, hB1, hG1⟩ := hI.1
   have zd0 := hR.pred 0 (by kernel_rfl)
   have zF0 : V 0 = .pointer (some ⟨g3, 1, none⟩) := hI.2 0 zd0 rfl
   have zf0 := zF0; clear zF0
   have ze6 := hR.frame.done (t := 6) (j := 0) (by kernel_rfl) hR.ok zd0
   have zx := (HB2.out.modp hG1.1).cell 1
   simp at zx
   rw [if_pos (by rfl)]
   go_simp
   exact hK (.int .i64 xat) _ (hI.next hR (by kernel_rfl) (ModD.refl _) (PB.quiet hI.1 (Mod.refl _ _) (HGs.out D 1 zw1 zw1 (hI.1).g (ModD.refl _))) (upd_same V 1 _))
  ·intro D V zw1 a hR hI K hK
   obtain ⟨hM1, hB1, hG1⟩ := hI.1
   have ze4 := hR.frame.other (t := 4) (by kernel_rfl) rfl
   rw [if_pos (by rfl)]
   go_simp
   exact hK (.pointer (some ⟨g3 + 1, 1, none⟩)) _ (hI.next hR (by kernel_rfl) (ModD.refl _) (PB.quiet hI.1 (Mod.refl _ _) (HGs.out D 2 zw1 zw1 (hI.1).g (ModD.refl _))) (upd_same V 2 _))
  ·intro D V zw1 a hR hI K hK
   obtain ⟨hM1, hB1, hG1⟩ := hI.1
   have zd2 := hR.pred 2 (by kernel_rfl)
   have zF2 : V 2 = .pointer (some ⟨g3 + 1, 1, none⟩) := hI.2 2 zd2 rfl
   have zf2 := zF2; clear zF2
   have ze8 := hR.frame.done (t := 8) (j := 2) (by kernel_rfl) hR.ok zd2
   have zx := (HB3.out.modp hG1.1).cell 1
   simp at zx
   rw [if_pos (by rfl)]
   go_simp
   exact hK (.int .i64 yat) _ (hI.next hR (by kernel_rfl) (ModD.refl _) (PB.quiet hI.1 (Mod.refl _ _) (HGs.out D 3 zw1 zw1 (hI.1).g (ModD.refl _))) (upd_same V 3 _))
  ·intro D V zw1 a hR hI K hK
   obtain ⟨hM1, hB1, hG1⟩ := hI.1
   have zd1 := hR.pred 1 (by kernel_rfl)
   have zF1 : V 1 = .int .i64 xat := hI.2 1 zd1 rfl
   have zf1 := zF1; clear zF1
   have zd3 := hR.pred 3 (by kernel_rfl)
   have zF3 : V 3 = .int .i64 yat := hI.2 3 zd3 rfl
   have zf3 := zF3; clear zF3
   have ze7 := hR.frame.done (t := 7) (j := 1) (by kernel_rfl) hR.ok zd1
   have ze9 := hR.frame.done (t := 9) (j := 3) (by kernel_rfl) hR.ok zd3
   rw [if_pos (by rfl)]
   go_simp
   exact hK (.int .i64 (xat - yat)) _ (hI.next hR (by kernel_rfl) (ModD.refl _) (PB.quiet hI.1 (Mod.refl _ _) (HGs.out D 4 zw1 zw1 (hI.1).g (ModD.refl _))) (upd_same V 4 _))
  ·intro D V zw1 a hR hI K hK
   obtain ⟨hM1, hB1, hG1⟩ := hI.1
   have ze3 := hR.frame.other (t := 3) (by kernel_rfl) rfl
   rw [if_pos (by rfl)]
   go_simp
   exact hK (.pointer (some ⟨g3, 3, none⟩)) _ (hI.next hR (by kernel_rfl) (ModD.refl _) (PB.quiet hI.1 (Mod.refl _ _) (HGs.out D 5 zw1 zw1 (hI.1).g (ModD.refl _))) (upd_same V 5 _))
  ·intro D V zw1 a hR hI K hK
   obtain ⟨hM1, hB1, hG1⟩ := hI.1
   have zd5 := hR.pred 5 (by kernel_rfl)
   have zF5 : V 5 = .pointer (some ⟨g3, 3, none⟩) := hI.2 5 zd5 rfl
   have zf5 := zF5; clear zF5
   have ze11 := hR.frame.done (t := 11) (j := 5) (by kernel_rfl) hR.ok zd5
   have zx := (HB2.out.modp hG1.1).cell 3
   simp at zx
   rw [if_pos (by rfl)]
   go_simp
   exact hK (.string ⟨xitem.toArray⟩) _ (hI.next hR (by kernel_rfl) (ModD.refl _) (PB.quiet hI.1 (Mod.refl _ _) (HGs.out D 6 zw1 zw1 (hI.1).g (ModD.refl _))) (upd_same V 6 _))
  ·intro D V zw1 a hR hI K hK
   obtain ⟨hM1, hB1, hG1⟩ := hI.1
   have ze4 := hR.frame.other (t := 4) (by kernel_rfl) rfl
   rw [if_pos (by rfl)]
   go_simp
   exact hK (.pointer (some ⟨g3 + 1, 3, none⟩)) _ (hI.next hR (by kernel_rfl) (ModD.refl _) (PB.quiet hI.1 (Mod.refl _ _) (HGs.out D 7 zw1 zw1 (hI.1).g (ModD.refl _))) (upd_same V 7 _))
  ·intro D V zw1 a hR hI K hK
   obtain ⟨hM1, hB1, hG1⟩ := hI.1
   have zd7 := hR.pred 7 (by kernel_rfl)
   have zF7 : V 7 = .pointer (some ⟨g3 + 1, 3, none⟩) := hI.2 7 zd7 rfl
   have zf7 := zF7; clear zF7
   have ze13 := hR.frame.done (t := 13) (j := 7) (by kernel_rfl) hR.ok zd7
   have zx := (HB3.out.modp hG1.1).cell 3
   simp at zx
   rw [if_pos (by rfl)]
   go_simp
   exact hK (.string ⟨yitem.toArray⟩) _ (hI.next hR (by kernel_rfl) (ModD.refl _) (PB.quiet hI.1 (Mod.refl _ _) (HGs.out D 8 zw1 zw1 (hI.1).g (ModD.refl _))) (upd_same V 8 _))
  ·intro D V zw1 a hR hI K hK
   obtain ⟨hM1, hB1, hG1⟩ := hI.1
   have zd6 := hR.pred 6 (by kernel_rfl)
   have zF6 : V 6 = .string ⟨xitem.toArray⟩ := hI.2 6 zd6 rfl
   have zf6 := zF6; clear zF6
   have zd8 := hR.pred 8 (by kernel_rfl)
   have zF8 : V 8 = .string ⟨yitem.toArray⟩ := hI.2 8 zd8 rfl
   have zf8 := zF8; clear zF8
   have ze12 := hR.frame.done (t := 12) (j := 6) (by kernel_rfl) hR.ok zd6
   have ze14 := hR.frame.done (t := 14) (j := 8) (by kernel_rfl) hR.ok zd8
   rw [if_pos (by rfl)]
   go_simp
   refine (cmpStr_calls zw1 xitem yitem).mono ?_
   rintro e zw2 ⟨rfl, hm2⟩
   exact hK (.int .i64 (Lib.compareBytes xitem yitem)) _ (hI.next hR (by kernel_rfl) hm2 (PB.quiet hI.1 hm2.1 (HGs.out D 9 _ _ (hI.1).g hm2)) (upd_same V 9 _))
  ·intro D V zw1 a hR hI K hK
   obtain ⟨hM1, hB1, hG1⟩ := hI.1
   have ze3 := hR.frame.other (t := 3) (by kernel_rfl) rfl
   rw [if_pos (by rfl)]
   go_simp
   exact hK (.pointer (some ⟨g3, 2, none⟩)) _ (hI.next hR (by kernel_rfl) (ModD.refl _) (PB.quiet hI.1 (Mod.refl _ _) (HGs.out D 10 zw1 zw1 (hI.1).g (ModD.refl _))) (upd_same V 10 _))
  ·intro D V zw1 a hR hI K hK
   obtain ⟨hM1, hB1, hG1⟩ := hI.1
   have zd10 := hR.pred 10 (by kernel_rfl)
   have zF10 : V 10 = .pointer (some ⟨g3, 2, none⟩) := hI.2 10 zd10 rfl
   have zf10 := zF10; clear zF10
   have ze16 := hR.frame.done (t := 16) (j := 10) (by kernel_rfl) hR.ok zd10
   have zx := (HB2.out.modp hG1.1).cell 2
   simp at zx
   rw [if_pos (by rfl)]
   go_simp
   exact hK (.string ⟨xrev.toArray⟩) _ (hI.next hR (by kernel_rfl) (ModD.refl _) (PB.quiet hI.1 (Mod.refl _ _) (HGs.out D 11 zw1 zw1 (hI.1).g (ModD.refl _))) (upd_same V 11 _))
  ·intro D V zw1 a hR hI K hK
   obtain ⟨hM1, hB1, hG1⟩ := hI.1
   have ze4 := hR.frame.other (t := 4) (by kernel_rfl) rfl
   rw [if_pos (by rfl)]
   go_simp
   exact hK (.pointer (some ⟨g3 + 1, 2, none⟩)) _ (hI.next hR (by kernel_rfl) (ModD.refl _) (PB.quiet hI.1 (Mod.refl _ _) (HGs.out D 12 zw1 zw1 (hI.1).g (ModD.refl _))) (upd_same V 12 _))
  ·intro D V zw1 a hR hI K hK
   obtain ⟨hM1, hB1, hG1⟩ := hI.1
   have zd12 := hR.pred 12 (by kernel_rfl)
   have zF12 : V 12 = .pointer (some ⟨g3 + 1, 2, none⟩) := hI.2 12 zd12 rfl
   have zf12 := zF12; clear zF12
   have ze18 := hR.frame.done (t := 18) (j := 12) (by kernel_rfl) hR.ok zd12
   have zx := (HB3.out.modp hG1.1).cell 2
   simp at zx
   rw [if_pos (by rfl)]
   go_simp
   exact hK (.string ⟨yrev.toArray⟩) _ (hI.next hR (by kernel_rfl) (ModD.refl _) (PB.quiet hI.1 (Mod.refl _ _) (HGs.out D 13 zw1 zw1 (hI.1).g (ModD.refl _))) (upd_same V 13 _))
  ·intro D V zw1 a hR hI K hK
   obtain ⟨hM1, hB1, hG1⟩ := hI.1
   have zd11 := hR.pred 11 (by kernel_rfl)
   have zF11 : V 11 = .string ⟨xrev.toArray⟩ := hI.2 11 zd11 rfl
   have zf11 := zF11; clear zF11
   have zd13 := hR.pred 13 (by kernel_rfl)
   have zF13 : V 13 = .string ⟨yrev.toArray⟩ := hI.2 13 zd13 rfl
   have zf13 := zF13; clear zF13
   have ze17 := hR.frame.done (t := 17) (j := 11) (by kernel_rfl) hR.ok zd11
   have ze19 := hR.frame.done (t := 19) (j := 13) (by kernel_rfl) hR.ok zd13
   rw [if_pos (by rfl)]
   go_simp
   refine (cmpStr_calls zw1 xrev yrev).mono ?_
   rintro e zw2 ⟨rfl, hm2⟩
   exact hK (.int .i64 (Lib.compareBytes xrev yrev)) _ (hI.next hR (by kernel_rfl) hm2 (PB.quiet hI.1 hm2.1 (HGs.out D 14 _ _ (hI.1).g hm2)) (upd_same V 14 _))
  ·intro D V zw1 a hR hI K hK
   obtain ⟨hM1, hB1, hG1⟩ := hI.1
   have ze3 := hR.frame.other (t := 3) (by kernel_rfl) rfl
   have zb := HB2.out.modp hG1.1
   have zx0 := zb.cell 0; have zx1 := zb.cell 1; have zx2 := zb.cell 2; have zx3 := zb.cell 3; have zx4 := zb.cell 4; have zx5 := zb.cell 5
   simp at zx0 zx1 zx2 zx3 zx4 zx5
   rw [if_pos (by rfl)]
   go_simp
   exact hK (.agg #[.int .i64 xno, .int .i64 xat, .string ⟨xrev.toArray⟩, .string ⟨xitem.toArray⟩, .bool xsec, .slice xA xs.length xc]) _ (hI.next hR (by kernel_rfl) (ModD.refl _) (PB.quiet hI.1 (Mod.refl _ _) (HGs.out D 15 zw1 zw1 (hI.1).g (ModD.refl _))) (upd_same V 15 _))
  ·intro D V zw1 a hR hI K hK
   obtain ⟨hM1, hB1, hG1⟩ := hI.1
   have zd15 := hR.pred 15 (by kernel_rfl)
   have zF15 : V 15 = .agg #[.int .i64 xno, .int .i64 xat, .string ⟨xrev.toArray⟩, .string ⟨xitem.toArray⟩, .bool xsec, .slice xA xs.length xc] := hI.2 15 zd15 rfl
   have zf15 := zF15; clear zF15
   have ze21 := hR.frame.done (t := 21) (j := 15) (by kernel_rfl) hR.ok zd15
   rw [if_pos (by rfl)]
   go_simp
   refine (HSX.out zw1).mono ?_
   rintro e zw2 ⟨rfl, hm2⟩
   exact hK (.int .i64 sx) _ (hI.next hR (by kernel_rfl) hm2 (PB.quiet hI.1 hm2.1 (HGs.out D 16 _ _ (hI.1).g hm2)) (upd_same V 16 _))
  ·intro D V zw1 a hR hI K hK
   obtain ⟨hM1, hB1, hG1⟩ := hI.1
   have ze4 := hR.frame.other (t := 4) (by kernel_rfl) rfl
   have zb := HB3.out.modp hG1.1
   have zx0 := zb.cell 0; have zx1 := zb.cell 1; have zx2 := zb.cell 2; have zx3 := zb.cell 3; have zx4 := zb.cell 4; have zx5 := zb.cell 5
   simp at zx0 zx1 zx2 zx3 zx4 zx5
   rw [if_pos (by rfl)]
   go_simp
   exact hK (.agg #[.int .i64 yno, .int .i64 yat, .string ⟨yrev.toArray⟩, .string ⟨yitem.toArray⟩, .bool ysec, .slice yA ys.length yc]) _ (hI.next hR (by kernel_rfl) (ModD.refl _) (PB.quiet hI.1 (Mod.refl _ _) (HGs.out D 17 zw1 zw1 (hI.1).g (ModD.refl _))) (upd_same V 17 _))
  ·intro D V zw1 a hR hI K hK
   obtain ⟨hM1, hB1, hG1⟩ := hI.1
   have zd17 := hR.pred 17 (by kernel_rfl)
   have zF17 : V 17 = .agg #[.int .i64 yno, .int .i64 yat, .string ⟨yrev.toArray⟩, .string ⟨yitem.toArray⟩, .bool ysec, .slice yA ys.length yc] := hI.2 17 zd17 rfl
   have zf17 := zF17; clear zF17
   have ze23 := hR.frame.done (t := 23) (j := 17) (by kernel_rfl) hR.ok zd17
   rw [if_pos (by rfl)]
   go_simp
   refine (HSY.out zw1).mono ?_
   rintro e zw2 ⟨rfl, hm2⟩
   exact hK (.int .i64 sy) _ (hI.next hR (by kernel_rfl) hm2 (PB.quiet hI.1 hm2.1 (HGs.out D 18 _ _ (hI.1).g hm2)) (upd_same V 18 _))
  ·intro D V zw1 a hR hI K hK
   obtain ⟨hM1, hB1, hG1⟩ := hI.1
   have zd16 := hR.pred 16 (by kernel_rfl)
   have zF16 : V 16 = .int .i64 sx := hI.2 16 zd16 rfl
   have zf16 := zF16; clear zF16
   have zd18 := hR.pred 18 (by kernel_rfl)
   have zF18 : V 18 = .int .i64 sy := hI.2 18 zd18 rfl
   have zf18 := zF18; clear zF18
   have ze22 := hR.frame.done (t := 22) (j := 16) (by kernel_rfl) hR.ok zd16
   have ze24 := hR.frame.done (t := 24) (j := 18) (by kernel_rfl) hR.ok zd18
   rw [if_pos (by rfl)]
   go_simp
   exact hK (.int .i64 (sx - sy)) _ (hI.next hR (by kernel_rfl) (ModD.refl _) (PB.quiet hI.1 (Mod.refl _ _) (HGs.out D 19 zw1 zw1 (hI.1).g (ModD.refl _))) (upd_same V 19 _))
  ·intro D V zw1 a hR hI K hK
   obtain ⟨hM1, hB1, hG1⟩ := hI.1
   have ze2 := hR.frame.other (t := 2) (by kernel_rfl) rfl
   have zb := HB1.out.modp hG1.1
   have zx0 := zb.cell 0; have zx1 := zb.cell 1
   simp at zx0 zx1
   rw [if_pos (by rfl)]
   go_simp
   exact hK (.agg #[.slice A n c, .slice A2 n2 c2]) _ (hI.next hR (by kernel_rfl) (ModD.refl _) (PB.quiet hI.1 (Mod.refl _ _) (HGs.out D 20 zw1 zw1 (hI.1).g (ModD.refl _))) (upd_same V 20 _))
  ·intro D V zw1 a hR hI K hK
   obtain ⟨hM1, hB1, hG1⟩ := hI.1
   have ze3 := hR.frame.other (t := 3) (by kernel_rfl) rfl
   rw [if_pos (by rfl)]
   go_simp
   exact hK (.pointer (some ⟨g3, 5, none⟩)) _ (hI.next hR (by kernel_rfl) (ModD.refl _) (PB.quiet hI.1 (Mod.refl _ _) (HGs.out D 21 zw1 zw1 (hI.1).g (ModD.refl _))) (upd_same V 21 _))
  ·intro D V zw1 a hR hI K hK
   obtain ⟨hM1, hB1, hG1⟩ := hI.1
   have zd21 := hR.pred 21 (by kernel_rfl)
   have zF21 : V 21 = .pointer (some ⟨g3, 5, none⟩) := hI.2 21 zd21 rfl
   have zf21 := zF21; clear zF21
   have ze27 := hR.frame.done (t := 27) (j := 21) (by kernel_rfl) hR.ok zd21
   have zx := (HB2.out.modp hG1.1).cell 5
   simp at zx
   rw [if_pos (by rfl)]
   go_simp
   exact hK (.slice xA xs.length xc) _ (hI.next hR (by kernel_rfl) (ModD.refl _) (PB.quiet hI.1 (Mod.refl _ _) (HGs.out D 22 zw1 zw1 (hI.1).g (ModD.refl _))) (upd_same V 22 _))
  ·intro D V zw1 a hR hI K hK
   obtain ⟨hM1, hB1, hG1⟩ := hI.1
   have ze4 := hR.frame.other (t := 4) (by kernel_rfl) rfl
   rw [if_pos (by rfl)]
   go_simp
   exact hK (.pointer (some ⟨g3 + 1, 5, none⟩)) _ (hI.next hR (by kernel_rfl) (ModD.refl _) (PB.quiet hI.1 (Mod.refl _ _) (HGs.out D 23 zw1 zw1 (hI.1).g (ModD.refl _))) (upd_same V 23 _))
  ·intro D V zw1 a hR hI K hK
   obtain ⟨hM1, hB1, hG1⟩ := hI.1
   have zd23 := hR.pred 23 (by kernel_rfl)
   have zF23 : V 23 = .pointer (some ⟨g3 + 1, 5, none⟩) := hI.2 23 zd23 rfl
   have zf23 := zF23; clear zF23
   have ze29 := hR.frame.done (t := 29) (j := 23) (by kernel_rfl) hR.ok zd23
   have zx := (HB3.out.modp hG1.1).cell 5
   simp at zx
   rw [if_pos (by rfl)]
   go_simp
   exact hK (.slice yA ys.length yc) _ (hI.next hR (by kernel_rfl) (ModD.refl _) (PB.quiet hI.1 (Mod.refl _ _) (HGs.out D 24 zw1 zw1 (hI.1).g (ModD.refl _))) (upd_same V 24 _))
  ·intro D V zw1 a hR hI K hK
   obtain ⟨hM1, hB1, hG1⟩ := hI.1
   have zd20 := hR.pred 20 (by kernel_rfl)
   have zF20 : V 20 = .agg #[.slice A n c, .slice A2 n2 c2] := hI.2 20 zd20 rfl
   have zf20 := zF20; clear zF20
   have zd22 := hR.pred 22 (by kernel_rfl)
   have zF22 : V 22 = .slice xA xs.length xc := hI.2 22 zd22 rfl
   have zf22 := zF22; clear zF22
   have zd24 := hR.pred 24 (by kernel_rfl)
   have zF24 : V 24 = .slice yA ys.length yc := hI.2 24 zd24 rfl
   have zf24 := zF24; clear zF24
   have ze26 := hR.frame.done (t := 26) (j := 20) (by kernel_rfl) hR.ok zd20
   have ze28 := hR.frame.done (t := 28) (j := 22) (by kernel_rfl) hR.ok zd22
   have ze30 := hR.frame.done (t := 30) (j := 24) (by kernel_rfl) hR.ok zd24
   rw [if_pos (by rfl)]
   go_simp
   refine (HOR.out zw1 (HP.out.trans hG1)).mono ?_
   rintro e zw2 ⟨rfl, hm2⟩
   exact hK (.int .i64 qo) _ (hI.next hR (by kernel_rfl) hm2 (PB.quiet hI.1 hm2.1 (HGs.out D 25 _ _ (hI.1).g hm2)) (upd_same V 25 _))
  ·intro D V zw1 a hR hI K hK
   obtain ⟨hM1, hB1, hG1⟩ := hI.1
   have zd4 := hR.pred 4 (by kernel_rfl)
   have zF4 : V 4 = .int .i64 (xat - yat) := hI.2 4 zd4 rfl
   have zf4 := zF4; clear zF4
   have zd9 := hR.pred 9 (by kernel_rfl)
   have zF9 : V 9 = .int .i64 (Lib.compareBytes xitem yitem) := hI.2 9 zd9 rfl
   have zf9 := zF9; clear zF9
   have zd14 := hR.pred 14 (by kernel_rfl)
   have zF14 : V 14 = .int .i64 (Lib.compareBytes xrev yrev) := hI.2 14 zd14 rfl
   have zf14 := zF14; clear zF14
   have zd19 := hR.pred 19 (by kernel_rfl)
   have zF19 : V 19 = .int .i64 (sx - sy) := hI.2 19 zd19 rfl
   have zf19 := zF19; clear zF19
   have zd25 := hR.pred 25 (by kernel_rfl)
   have zF25 : V 25 = .int .i64 qo := hI.2 25 zd25 rfl
   have zf25 := zF25; clear zF25
   have ze10 := hR.frame.done (t := 10) (j := 4) (by kernel_rfl) hR.ok zd4
   have ze15 := hR.frame.done (t := 15) (j := 9) (by kernel_rfl) hR.ok zd9
   have ze20 := hR.frame.done (t := 20) (j := 14) (by kernel_rfl) hR.ok zd14
   have ze25 := hR.frame.done (t := 25) (j := 19) (by kernel_rfl) hR.ok zd19
   have ze31 := hR.frame.done (t := 31) (j := 25) (by kernel_rfl) hR.ok zd25
   rw [if_pos (by rfl)]
   go_simp
   exact hK (_) _ (hI.next hR (by kernel_rfl) (ModD.alloc _ _) (PB.quiet hI.1 (pure_alloc _ _) (HGs.out D 26 _ _ (hI.1).g (ModD.alloc _ _))) (⟨_, upd_same V 26 _, (by omega), (Blk.new _ _ _)⟩))
  ·intro D V zw1 a hR hI K hK
   obtain ⟨hM1, hB1, hG1⟩ := hI.1
   have zd26 := hR.pred 26 (by kernel_rfl)
   have zF26 : ∃ (g_26 : Nat), V 26 = .slice (some ⟨g_26, 0, none⟩) 5 5 ∧ w2.heap.size ≤ g_26 ∧ Blk zw1 g_26 3 #[.int .i64 (xat - yat), .int .i64 (Lib.compareBytes xitem yitem), .int .i64 (Lib.compareBytes xrev yrev), .int .i64 (sx - sy), .int .i64 qo] := hI.2 26 zd26 (by show (!D 27) = true; rw [hR.not]; rfl)
   obtain ⟨g_26, zf26, c26_0, b26_0⟩ := zF26
   have ze32 := hR.frame.done (t := 32) (j := 26) (by kernel_rfl) hR.ok zd26
   rw [if_pos (by rfl)]
   go_simp
   refine (orID_calls zw1 _ 5 [xat - yat, Lib.compareBytes xitem yitem, Lib.compareBytes xrev yrev, sx - sy, qo] b26_0.row0 (by simp)).mono ?_
   rintro e zw2 ⟨rfl, hm2⟩
   exact hK (.int .i64 (firstErr [xat - yat, Lib.compareBytes xitem yitem, Lib.compareBytes xrev yrev, sx - sy, qo])) _ (hI.next hR (by kernel_rfl) hm2 (PB.quiet hI.1 hm2.1 (HGs.out D 27 _ _ (hI.1).g hm2)) (upd_same V 27 _))
  ·intro D V zw1 a hR hI K hK
   obtain ⟨hM1, hB1, hG1⟩ := hI.1
   have zd27 := hR.pred 27 (by kernel_rfl)
   have zF27 : V 27 = .int .i64 (firstErr [xat - yat, Lib.compareBytes xitem yitem, Lib.compareBytes xrev yrev, sx - sy, qo]) := hI.2 27 zd27 rfl
   have zf27 := zF27; clear zF27
   have ze33 := hR.frame.done (t := 33) (j := 27) (by kernel_rfl) hR.ok zd27
   rw [if_pos (by rfl)]
   go_simp
   exact hK (.int .i64 (firstErr [xat - yat, Lib.compareBytes xitem yitem, Lib.compareBytes xrev yrev, sx - sy, qo])) _ (hI.next hR (by kernel_rfl) (ModD.refl _) (PB.quiet hI.1 (Mod.refl _ _) (HGs.out D 28 zw1 zw1 (hI.1).g (ModD.refl _))) (upd_same V 28 _))
 ·intro D V w3 hD hI
  obtain ⟨hM1, hB1, hG1⟩ := hI.1
  have hMx := hM1
  clear hM1
  have hBx := hB1
  clear hB1
  have hGx := hG1
  clear hG1
  have zF0 : V 0 = .pointer (some ⟨g3, 1, none⟩) := hI.2 0 (hD 0 (by decide)) rfl
  have zf0 := zF0; clear zF0
  have zF1 : V 1 = .int .i64 xat := hI.2 1 (hD 1 (by decide)) rfl
  have zf1 := zF1; clear zF1
  have zF2 : V 2 = .pointer (some ⟨g3 + 1, 1, none⟩) := hI.2 2 (hD 2 (by decide)) rfl
  have zf2 := zF2; clear zF2
  have zF3 : V 3 = .int .i64 yat := hI.2 3 (hD 3 (by decide)) rfl
  have zf3 := zF3; clear zF3
  have zF4 : V 4 = .int .i64 (xat - yat) := hI.2 4 (hD 4 (by decide)) rfl
  have zf4 := zF4; clear zF4
  have zF5 : V 5 = .pointer (some ⟨g3, 3, none⟩) := hI.2 5 (hD 5 (by decide)) rfl
  have zf5 := zF5; clear zF5
  have zF6 : V 6 = .string ⟨xitem.toArray⟩ := hI.2 6 (hD 6 (by decide)) rfl
  have zf6 := zF6; clear zF6
  have zF7 : V 7 = .pointer (some ⟨g3 + 1, 3, none⟩) := hI.2 7 (hD 7 (by decide)) rfl
  have zf7 := zF7; clear zF7
  have zF8 : V 8 = .string ⟨yitem.toArray⟩ := hI.2 8 (hD 8 (by decide)) rfl
  have zf8 := zF8; clear zF8
  have zF9 : V 9 = .int .i64 (Lib.compareBytes xitem yitem) := hI.2 9 (hD 9 (by decide)) rfl
  have zf9 := zF9; clear zF9
  have zF10 : V 10 = .pointer (some ⟨g3, 2, none⟩) := hI.2 10 (hD 10 (by decide)) rfl
  have zf10 := zF10; clear zF10
  have zF11 : V 11 = .string ⟨xrev.toArray⟩ := hI.2 11 (hD 11 (by decide)) rfl
  have zf11 := zF11; clear zF11
  have zF12 : V 12 = .pointer (some ⟨g3 + 1, 2, none⟩) := hI.2 12 (hD 12 (by decide)) rfl
  have zf12 := zF12; clear zF12
  have zF13 : V 13 = .string ⟨yrev.toArray⟩ := hI.2 13 (hD 13 (by decide)) rfl
  have zf13 := zF13; clear zF13
  have zF14 : V 14 = .int .i64 (Lib.compareBytes xrev yrev) := hI.2 14 (hD 14 (by decide)) rfl
  have zf14 := zF14; clear zF14
  have zF15 : V 15 = .agg #[.int .i64 xno, .int .i64 xat, .string ⟨xrev.toArray⟩, .string ⟨xitem.toArray⟩, .bool xsec, .slice xA xs.length xc] := hI.2 15 (hD 15 (by decide)) rfl
  have zf15 := zF15; clear zF15
  have zF16 : V 16 = .int .i64 sx := hI.2 16 (hD 16 (by decide)) rfl
  have zf16 := zF16; clear zF16
  have zF17 : V 17 = .agg #[.int .i64 yno, .int .i64 yat, .string ⟨yrev.toArray⟩, .string ⟨yitem.toArray⟩, .bool ysec, .slice yA ys.length yc] := hI.2 17 (hD 17 (by decide)) rfl
  have zf17 := zF17; clear zF17
  have zF18 : V 18 = .int .i64 sy := hI.2 18 (hD 18 (by decide)) rfl
  have zf18 := zF18; clear zF18
  have zF19 : V 19 = .int .i64 (sx - sy) := hI.2 19 (hD 19 (by decide)) rfl
  have zf19 := zF19; clear zF19
  have zF20 : V 20 = .agg #[.slice A n c, .slice A2 n2 c2] := hI.2 20 (hD 20 (by decide)) rfl
  have zf20 := zF20; clear zF20
  have zF21 : V 21 = .pointer (some ⟨g3, 5, none⟩) := hI.2 21 (hD 21 (by decide)) rfl
  have zf21 := zF21; clear zF21
  have zF22 : V 22 = .slice xA xs.length xc := hI.2 22 (hD 22 (by decide)) rfl
  have zf22 := zF22; clear zF22
  have zF23 : V 23 = .pointer (some ⟨g3 + 1, 5, none⟩) := hI.2 23 (hD 23 (by decide)) rfl
  have zf23 := zF23; clear zF23
  have zF24 : V 24 = .slice yA ys.length yc := hI.2 24 (hD 24 (by decide)) rfl
  have zf24 := zF24; clear zF24
  have zF25 : V 25 = .int .i64 qo := hI.2 25 (hD 25 (by decide)) rfl
  have zf25 := zF25; clear zF25
  have zF27 : V 27 = .int .i64 (firstErr [xat - yat, Lib.compareBytes xitem yitem, Lib.compareBytes xrev yrev, sx - sy, qo]) := hI.2 27 (hD 27 (by decide)) rfl
  have zf27 := zF27; clear zF27
  have zF28 : V 28 = .int .i64 (firstErr [xat - yat, Lib.compareBytes xitem yitem, Lib.compareBytes xrev yrev, sx - sy, qo]) := hI.2 28 (hD 28 (by decide)) rfl
  have zf28 := zF28; clear zF28
  clear hI hD HGs
  simp only [frAll, Act.put, List.setIfInBounds_toArray, List.set_cons_zero, List.set_cons_succ, Nat.zero_add, Nat.reduceAdd, zf0, zf1, zf2, zf3, zf4, zf5, zf6, zf7, zf8, zf9, zf10, zf11, zf12, zf13, zf14, zf15, zf16, zf17, zf18, zf19, zf20, zf21, zf22, zf23, zf24, zf25, zf27, zf28]
  clear zf0 zf1 zf2 zf3 zf4 zf5 zf6 zf7 zf8 zf9 zf10 zf11 zf12 zf13 zf14 zf15 zf16 zf17 zf18 zf19 zf20 zf21 zf22 zf23 zf24 zf25 zf27 zf28
  generalize V 26 = u26
  clear V D
  go_wp2_with fail
  go_ret
  exact IntD.of (by rw [HQ.out, or5]) (HP.out.trans hGx)

end Go.Proofs.YtkkndblcejmmjaaGreatDoor

/- The comparison of merged decisions: the reference's. -/
namespace Go.Proofs.YtkkndblcejmmjaaGreatDoor
set_option linter.unusedVariables false
set_option linter.unusedSimpArgs false
open Go.RowKit

set_option maxRecDepth 100000 in
set_option maxHeartbeats 8000000 in
theorem mrg2R_calls (w : World) (gl : Nat) (L : LayR) (A A2 : Option Addr) (n c n2 c2 : Nat) (x y : DecR) (hB : Blk w gl 29 #[.slice A n c, .slice A2 n2 c2]) (hL : LayV w L (.agg #[.slice A n c, .slice A2 n2 c2])) (hLB : LayB L) (hx : DecEl w x) (hy : DecEl w y) (hxz : DecB x) (hyz : DecB y) (hk1 : ∀ z ∈ x.vals, 0 ≤ kIx L.asks z.field) (hk2 : ∀ z ∈ y.vals, 0 ≤ kIx L.asks z.field) : Calls Tryz.prog 91 #[DecVal x, DecVal y, .pointer (some ⟨gl, 0, none⟩)] w (IntD w (cmpMR L.asks x y)) := by
 have HQ : Hid (cmpMR L.asks x y = if x.at_ ≠ y.at_ then sgI (x.at_ - y.at_) else if x.item ≠ y.item then Lib.compareBytes x.item y.item else if x.rev ≠ y.rev then Lib.compareBytes x.rev y.rev else if x.sec ≠ y.sec then secI x.sec - secI y.sec else ordR L.asks x.vals y.vals) := Lib.hid rfl
 have HOR := Lib.hid (fun W (h : ModD w W) => valueOrder_calls W _ L x.A y.A x.vals.length x.c y.vals.length y.c x.vals y.vals (hL.pure h.1) hLB (hx.pure h.1) (hy.pure h.1) hxz.2.2.2.2.2.2 hyz.2.2.2.2.2.2 hk1 hk2)
 have hb1 := hxz.2.2.1
 have hb2 := hxz.2.2.2.1
 have hb3 := hyz.2.2.1
 have hb4 := hyz.2.2.2.1
 obtain ⟨xno, xat, xrev, xitem, xsec, xA, xc, xs⟩ := x
 obtain ⟨yno, yat, yrev, yitem, ysec, yA, yc, ys⟩ := y
 simp only [DecVal.eq] at *
 have HP : Hid (ModD w ((w.alloc (.cells #[.int .i64 xno, .int .i64 xat, .string ⟨xrev.toArray⟩, .string ⟨xitem.toArray⟩, .bool xsec, .slice xA xs.length xc] 40)).alloc (.cells #[.int .i64 yno, .int .i64 yat, .string ⟨yrev.toArray⟩, .string ⟨yitem.toArray⟩, .bool ysec, .slice yA ys.length yc] 40))) := Lib.hid ((ModD.alloc _ _).al _)
 have HB1 := Lib.hid ((hB.alloc (.cells #[.int .i64 xno, .int .i64 xat, .string ⟨xrev.toArray⟩, .string ⟨xitem.toArray⟩, .bool xsec, .slice xA xs.length xc] 40)).alloc (.cells #[.int .i64 yno, .int .i64 yat, .string ⟨yrev.toArray⟩, .string ⟨yitem.toArray⟩, .bool ysec, .slice yA ys.length yc] 40))
 have HB2 := Lib.hid ((Blk.new w 40 #[.int .i64 xno, .int .i64 xat, .string ⟨xrev.toArray⟩, .string ⟨xitem.toArray⟩, .bool xsec, .slice xA xs.length xc]).alloc (.cells #[.int .i64 yno, .int .i64 yat, .string ⟨yrev.toArray⟩, .string ⟨yitem.toArray⟩, .bool ysec, .slice yA ys.length yc] 40))
 have HB3 := Lib.hid (Blk.snd w (.cells #[.int .i64 xno, .int .i64 xat, .string ⟨xrev.toArray⟩, .string ⟨xitem.toArray⟩, .bool xsec, .slice xA xs.length xc] 40) 40 #[.int .i64 yno, .int .i64 yat, .string ⟨yrev.toArray⟩, .string ⟨yitem.toArray⟩, .bool ysec, .slice yA ys.length yc])
 generalize cmpMR L.asks _ _ = q at *
 generalize ordR L.asks xs ys = qo at *
 clear hLB hx hy hxz hyz hk1 hk2 hB hL
 go_enter Tryz.func91, Tryz.ntmps91
 go_upto_region 1 with (fail)
 generalize ((w.alloc (.cells #[.int .i64 xno, .int .i64 xat, .string ⟨xrev.toArray⟩, .string ⟨xitem.toArray⟩, .bool xsec, .slice xA xs.length xc] 40)).alloc (.cells #[.int .i64 yno, .int .i64 yat, .string ⟨yrev.toArray⟩, .string ⟨yitem.toArray⟩, .bool ysec, .slice yA ys.length yc] 40)) = w2 at *
 generalize w.heap.size = g3 at *
 have hX1 := HB1.out
 have hX2 := HB2.out
 have hX3 := HB3.out
 have a0 := hX1.cell 0; have a1 := hX1.cell 1; simp at a0 a1
 have d0 := hX2.cell 0; have d1 := hX2.cell 1; have d2 := hX2.cell 2; have d3 := hX2.cell 3; have d4 := hX2.cell 4; have d5 := hX2.cell 5; simp at d0 d1 d2 d3 d4 d5
 have e0 := hX3.cell 0; have e1 := hX3.cell 1; have e2 := hX3.cell 2; have e3 := hX3.cell 3; have e4 := hX3.cell 4; have e5 := hX3.cell 5; simp at e0 e1 e2 e3 e4 e5
 clear hX1 hX2 hX3
 by_cases h1 : xat = yat
 rotate_left
 ·have t1 : (xat != yat) = true := by simpa using h1
  have HZ : Hid (q = sgI (xat - yat)) := Lib.hid (by rw [HQ.out, if_pos h1])
  have hw1 : IntKind.i64.wrap (xat - yat) = xat - yat := IntWalk.i64_in _ (by omega)
  clear HQ h1
  go_wp2_with fail
  refine (signD_calls _ _).mono ?_
  rintro e w3 ⟨rfl, hm⟩
  go_wp2_with fail
  go_ret
  exact IntD.of HZ.out (HP.out.trans hm)
 have HQ1 := Lib.hid (HQ.out.trans (if_neg (not_not_intro h1)))
 clear HQ
 subst h1
 have t1 : (xat != xat) = false := by simp
 by_cases h2 : xitem = yitem
 rotate_left
 ·have t2 : (xitem != yitem) = true := by simpa using h2
  have t2' : (xitem == yitem) = false := by simpa using h2
  have HZ : Hid (q = Lib.compareBytes xitem yitem) := Lib.hid (by rw [HQ1.out, if_pos h2])
  clear HQ1 h2
  go_wp2_with fail
  refine (cmpStr_calls _ _ _).mono ?_
  rintro e w3 ⟨rfl, hm⟩
  go_wp2_with fail
  go_ret
  exact IntD.of HZ.out (HP.out.trans hm)
 have HQ2 := Lib.hid (HQ1.out.trans (if_neg (not_not_intro h2)))
 clear HQ1
 subst h2
 have t2 : (xitem != xitem) = false := by simp
 have t2' : (xitem == xitem) = true := by simp
 by_cases h3 : xrev = yrev
 rotate_left
 ·have t3 : (xrev != yrev) = true := by simpa using h3
  have t3' : (xrev == yrev) = false := by simpa using h3
  have HZ : Hid (q = Lib.compareBytes xrev yrev) := Lib.hid (by rw [HQ2.out, if_pos h3])
  clear HQ2 h3
  go_wp2_with fail
  refine (cmpStr_calls _ _ _).mono ?_
  rintro e w3 ⟨rfl, hm⟩
  go_wp2_with fail
  go_ret
  exact IntD.of HZ.out (HP.out.trans hm)
 have HQ3 := Lib.hid (HQ2.out.trans (if_neg (not_not_intro h3)))
 clear HQ2
 subst h3
 have t3 : (xrev != xrev) = false := by simp
 have t3' : (xrev == xrev) = true := by simp
 by_cases h4 : xsec = ysec
 rotate_left
 ·have t4 : (xsec != ysec) = true := by simpa using h4
  have t4' : (xsec == ysec) = false := by simpa using h4
  have HZ : Hid (q = secI xsec - secI ysec) := Lib.hid (by rw [HQ3.out, if_pos h4])
  have hw2 : IntKind.i64.wrap (secI xsec - secI ysec) = secI xsec - secI ysec := by cases xsec <;> cases ysec <;> rfl
  have HFX := Lib.hid (fun W => flagD_calls W xsec)
  have HFY := Lib.hid (fun W => flagD_calls W ysec)
  generalize secI xsec = sx at *
  generalize secI ysec = sy at *
  clear HQ3 h4
  go_upto_region 8 with (fail)
  clear a0 a1 d0 d1 d2 d3 d4 d5 e0 e1 e2 e3 e4 e5
  have HGs := Lib.hid (show ∀ (D : Nat → Bool) (zzi : Nat) (zq zq' : World), (fun _ zq => (fun Z => ModD w2 Z) zq) D zq → ModD zq zq' → (fun _ zq => (fun Z => ModD w2 Z) zq) (upd D zzi true) zq' from by intro D zzi zq zq' h hm; (exact h.trans hm))
  refine wp_region_inv (by kernel_rfl) (by kernel_rfl) (InvF (R := ModD) [.is (.pointer (some ⟨g3, 4, none⟩)),
    .is (.bool xsec),
    .is (.int .i64 sx),
    .is (.pointer (some ⟨g3 + 1, 4, none⟩)),
    .is (.bool ysec),
    .is (.int .i64 sy),
    .is (.int .i64 (sx - sy)),
    .is (.int .i64 (sx - sy))]
    (PB w (fun _ => False) w2.heap.size (fun _ zq => (fun Z => ModD w2 Z) zq))) (InvF.start (PB.start HP.out.1 (Nat.le_refl _) (((ModD.refl _).drewN 1)))) ?_ ?_
  ·refine .cons ?_ (.cons ?_ (.cons ?_ (.cons ?_ (.cons ?_ (.cons ?_ (.cons ?_ (.cons ?_ .nil)))))))
   ·intro D V zw1 a hR hI K hK
    obtain ⟨hM1, hB1, hG1⟩ := hI.1
    have ze3 := hR.frame.other (t := 3) (by kernel_rfl) rfl
    rw [if_pos (by rfl)]
    go_simp
    exact hK (.pointer (some ⟨g3, 4, none⟩)) _ (hI.next hR (by kernel_rfl) (ModD.refl _) (PB.quiet hI.1 (Mod.refl _ _) (HGs.out D 0 zw1 zw1 (hI.1).g (ModD.refl _))) (upd_same V 0 _))
   ·intro D V zw1 a hR hI K hK
    obtain ⟨hM1, hB1, hG1⟩ := hI.1
    have zd0 := hR.pred 0 (by kernel_rfl)
    have zF0 : V 0 = .pointer (some ⟨g3, 4, none⟩) := hI.2 0 zd0 rfl
    have zf0 := zF0; clear zF0
    have ze46 := hR.frame.done (t := 46) (j := 0) (by kernel_rfl) hR.ok zd0
    have zx := (HB2.out.modp hG1.1).cell 4
    simp at zx
    rw [if_pos (by rfl)]
    go_simp
    exact hK (.bool xsec) _ (hI.next hR (by kernel_rfl) (ModD.refl _) (PB.quiet hI.1 (Mod.refl _ _) (HGs.out D 1 zw1 zw1 (hI.1).g (ModD.refl _))) (upd_same V 1 _))
   ·intro D V zw1 a hR hI K hK
    obtain ⟨hM1, hB1, hG1⟩ := hI.1
    have zd1 := hR.pred 1 (by kernel_rfl)
    have zF1 : V 1 = .bool xsec := hI.2 1 zd1 rfl
    have zf1 := zF1; clear zF1
    have ze47 := hR.frame.done (t := 47) (j := 1) (by kernel_rfl) hR.ok zd1
    rw [if_pos (by rfl)]
    go_simp
    refine (HFX.out zw1).mono ?_
    rintro e zw2 ⟨rfl, hm2⟩
    exact hK (.int .i64 sx) _ (hI.next hR (by kernel_rfl) hm2 (PB.quiet hI.1 hm2.1 (HGs.out D 2 _ _ (hI.1).g hm2)) (upd_same V 2 _))
   ·intro D V zw1 a hR hI K hK
    obtain ⟨hM1, hB1, hG1⟩ := hI.1
    have ze4 := hR.frame.other (t := 4) (by kernel_rfl) rfl
    rw [if_pos (by rfl)]
    go_simp
    exact hK (.pointer (some ⟨g3 + 1, 4, none⟩)) _ (hI.next hR (by kernel_rfl) (ModD.refl _) (PB.quiet hI.1 (Mod.refl _ _) (HGs.out D 3 zw1 zw1 (hI.1).g (ModD.refl _))) (upd_same V 3 _))
   ·intro D V zw1 a hR hI K hK
    obtain ⟨hM1, hB1, hG1⟩ := hI.1
    have zd3 := hR.pred 3 (by kernel_rfl)
    have zF3 : V 3 = .pointer (some ⟨g3 + 1, 4, none⟩) := hI.2 3 zd3 rfl
    have zf3 := zF3; clear zF3
    have ze49 := hR.frame.done (t := 49) (j := 3) (by kernel_rfl) hR.ok zd3
    have zx := (HB3.out.modp hG1.1).cell 4
    simp at zx
    rw [if_pos (by rfl)]
    go_simp
    exact hK (.bool ysec) _ (hI.next hR (by kernel_rfl) (ModD.refl _) (PB.quiet hI.1 (Mod.refl _ _) (HGs.out D 4 zw1 zw1 (hI.1).g (ModD.refl _))) (upd_same V 4 _))
   ·intro D V zw1 a hR hI K hK
    obtain ⟨hM1, hB1, hG1⟩ := hI.1
    have zd4 := hR.pred 4 (by kernel_rfl)
    have zF4 : V 4 = .bool ysec := hI.2 4 zd4 rfl
    have zf4 := zF4; clear zF4
    have ze50 := hR.frame.done (t := 50) (j := 4) (by kernel_rfl) hR.ok zd4
    rw [if_pos (by rfl)]
    go_simp
    refine (HFY.out zw1).mono ?_
    rintro e zw2 ⟨rfl, hm2⟩
    exact hK (.int .i64 sy) _ (hI.next hR (by kernel_rfl) hm2 (PB.quiet hI.1 hm2.1 (HGs.out D 5 _ _ (hI.1).g hm2)) (upd_same V 5 _))
   ·intro D V zw1 a hR hI K hK
    obtain ⟨hM1, hB1, hG1⟩ := hI.1
    have zd2 := hR.pred 2 (by kernel_rfl)
    have zF2 : V 2 = .int .i64 sx := hI.2 2 zd2 rfl
    have zf2 := zF2; clear zF2
    have zd5 := hR.pred 5 (by kernel_rfl)
    have zF5 : V 5 = .int .i64 sy := hI.2 5 zd5 rfl
    have zf5 := zF5; clear zF5
    have ze48 := hR.frame.done (t := 48) (j := 2) (by kernel_rfl) hR.ok zd2
    have ze51 := hR.frame.done (t := 51) (j := 5) (by kernel_rfl) hR.ok zd5
    rw [if_pos (by rfl)]
    go_simp
    exact hK (.int .i64 (sx - sy)) _ (hI.next hR (by kernel_rfl) (ModD.refl _) (PB.quiet hI.1 (Mod.refl _ _) (HGs.out D 6 zw1 zw1 (hI.1).g (ModD.refl _))) (upd_same V 6 _))
   ·intro D V zw1 a hR hI K hK
    obtain ⟨hM1, hB1, hG1⟩ := hI.1
    have zd6 := hR.pred 6 (by kernel_rfl)
    have zF6 : V 6 = .int .i64 (sx - sy) := hI.2 6 zd6 rfl
    have zf6 := zF6; clear zF6
    have ze52 := hR.frame.done (t := 52) (j := 6) (by kernel_rfl) hR.ok zd6
    rw [if_pos (by rfl)]
    go_simp
    exact hK (.int .i64 (sx - sy)) _ (hI.next hR (by kernel_rfl) (ModD.refl _) (PB.quiet hI.1 (Mod.refl _ _) (HGs.out D 7 zw1 zw1 (hI.1).g (ModD.refl _))) (upd_same V 7 _))
  ·intro D V w3 hD hI
   obtain ⟨hM1, hB1, hG1⟩ := hI.1
   have hMx := hM1
   clear hM1
   have hBx := hB1
   clear hB1
   have hGx := hG1
   clear hG1
   have zF0 : V 0 = .pointer (some ⟨g3, 4, none⟩) := hI.2 0 (hD 0 (by decide)) rfl
   have zf0 := zF0; clear zF0
   have zF1 : V 1 = .bool xsec := hI.2 1 (hD 1 (by decide)) rfl
   have zf1 := zF1; clear zF1
   have zF2 : V 2 = .int .i64 sx := hI.2 2 (hD 2 (by decide)) rfl
   have zf2 := zF2; clear zF2
   have zF3 : V 3 = .pointer (some ⟨g3 + 1, 4, none⟩) := hI.2 3 (hD 3 (by decide)) rfl
   have zf3 := zF3; clear zF3
   have zF4 : V 4 = .bool ysec := hI.2 4 (hD 4 (by decide)) rfl
   have zf4 := zF4; clear zF4
   have zF5 : V 5 = .int .i64 sy := hI.2 5 (hD 5 (by decide)) rfl
   have zf5 := zF5; clear zF5
   have zF6 : V 6 = .int .i64 (sx - sy) := hI.2 6 (hD 6 (by decide)) rfl
   have zf6 := zF6; clear zF6
   have zF7 : V 7 = .int .i64 (sx - sy) := hI.2 7 (hD 7 (by decide)) rfl
   have zf7 := zF7; clear zF7
   clear hI hD HGs
   simp only [frAll, Act.put, List.setIfInBounds_toArray, List.set_cons_zero, List.set_cons_succ, Nat.zero_add, Nat.reduceAdd, zf0, zf1, zf2, zf3, zf4, zf5, zf6, zf7]
   clear zf0 zf1 zf2 zf3 zf4 zf5 zf6 zf7
   clear V D
   go_wp2_with fail
   go_ret
   exact IntD.of HZ.out (HP.out.trans hGx)
 have HQ4 := Lib.hid (HQ3.out.trans (if_neg (not_not_intro h4)))
 clear HQ3
 subst h4
 have t4 : (xsec != xsec) = false := by simp
 have t4' : (xsec == xsec) = true := by simp
 go_wp2_with fail
 refine (HOR.out _ HP.out).mono ?_
 rintro e w3 ⟨rfl, hm⟩
 go_wp2_with fail
 go_ret
 exact IntD.of HQ4.out (HP.out.trans hm)

end Go.Proofs.YtkkndblcejmmjaaGreatDoor

/- Merge$2 of the program. -/
namespace Go.Proofs.YtkkndblcejmmjaaGreatDoor
set_option linter.unusedVariables false
set_option linter.unusedSimpArgs false
open Go.RowKit

set_option maxRecDepth 100000 in
set_option maxHeartbeats 8000000 in
theorem mrg2_calls (w : World) (g10 gl : Nat) (L : LayR) (A A2 : Option Addr) (n c n2 c2 : Nat) (x y : DecR) (h10 : w.cell? ⟨g10, 0, none⟩ = some (.func (.func 80) #[] #[.pointer (some ⟨gl, 0, none⟩)])) (hB : Blk w gl 29 #[.slice A n c, .slice A2 n2 c2]) (hL : LayV w L (.agg #[.slice A n c, .slice A2 n2 c2])) (hLB : LayB L) (hx : DecEl w x) (hy : DecEl w y) (hxz : DecB x) (hyz : DecB y) (hk : ∀ z ∈ x.vals, 0 ≤ kIx L.asks z.field) : Calls Tryz.prog 87 #[DecVal x, DecVal y, .pointer (some ⟨g10, 0, none⟩)] w (BoolPost w (decide (cmpM L.asks x y = 0))) := by
 have HC := Lib.hid (fun W (h : Pure w W) => mrg1_calls W gl L A A2 n c n2 c2 x y (hB.modp h) (hL.pure h) hLB (hx.pure h) (hy.pure h) hxz hyz hk)
 obtain ⟨xno, xat, xrev, xitem, xsec, xA, xc, xs⟩ := x
 obtain ⟨yno, yat, yrev, yitem, ysec, yA, yc, ys⟩ := y
 simp only [DecVal.eq] at *
 have hP : Pure w ((w.alloc (.cells #[.int .i64 xno, .int .i64 xat, .string ⟨xrev.toArray⟩, .string ⟨xitem.toArray⟩, .bool xsec, .slice xA xs.length xc] 40)).alloc (.cells #[.int .i64 yno, .int .i64 yat, .string ⟨yrev.toArray⟩, .string ⟨yitem.toArray⟩, .bool ysec, .slice yA ys.length yc] 40)) := (pure_alloc _ _).trans (pure_alloc _ _)
 have HP := Lib.hid hP
 have hc1 := keepp h10 hP
 have HQ : Hid (decide (cmpM L.asks ⟨xno, xat, xrev, xitem, xsec, xA, xc, xs⟩ ⟨yno, yat, yrev, yitem, ysec, yA, yc, ys⟩ = 0) = (cmpM L.asks ⟨xno, xat, xrev, xitem, xsec, xA, xc, xs⟩ ⟨yno, yat, yrev, yitem, ysec, yA, yc, ys⟩ == 0)) := Lib.hid (by rw [Bool.eq_iff_iff]; simp)
 have HX := Lib.hid ((Blk.new w 40 #[.int .i64 xno, .int .i64 xat, .string ⟨xrev.toArray⟩, .string ⟨xitem.toArray⟩, .bool xsec, .slice xA xs.length xc]).alloc (.cells #[.int .i64 yno, .int .i64 yat, .string ⟨yrev.toArray⟩, .string ⟨yitem.toArray⟩, .bool ysec, .slice yA ys.length yc] 40))
 have HY := Lib.hid (Blk.snd w (.cells #[.int .i64 xno, .int .i64 xat, .string ⟨xrev.toArray⟩, .string ⟨xitem.toArray⟩, .bool xsec, .slice xA xs.length xc] 40) 40 #[.int .i64 yno, .int .i64 yat, .string ⟨yrev.toArray⟩, .string ⟨yitem.toArray⟩, .bool ysec, .slice yA ys.length yc])
 generalize cmpM L.asks _ _ = q at *
 clear hLB hx hy hxz hyz hk hB hL h10 hP
 go_enter Tryz.func87, Tryz.ntmps87
 go_upto_region 1 with (fail)
 generalize ((w.alloc (.cells #[.int .i64 xno, .int .i64 xat, .string ⟨xrev.toArray⟩, .string ⟨xitem.toArray⟩, .bool xsec, .slice xA xs.length xc] 40)).alloc (.cells #[.int .i64 yno, .int .i64 yat, .string ⟨yrev.toArray⟩, .string ⟨yitem.toArray⟩, .bool ysec, .slice yA ys.length yc] 40)) = w2 at *
 generalize w.heap.size = g3 at *
 have hX := HX.out
 have hY := HY.out
 have d0 := hX.cell 0; have d1 := hX.cell 1; have d2 := hX.cell 2; have d3 := hX.cell 3; have d4 := hX.cell 4; have d5 := hX.cell 5; simp at d0 d1 d2 d3 d4 d5
 have e0 := hY.cell 0; have e1 := hY.cell 1; have e2 := hY.cell 2; have e3 := hY.cell 3; have e4 := hY.cell 4; have e5 := hY.cell 5; simp at e0 e1 e2 e3 e4 e5
 clear hX hY HX HY
 go_wp2_with fail
 refine (HC.out _ HP.out).mono ?_
 rintro e w3 ⟨rfl, hm⟩
 go_wp2_with fail
 go_ret
 exact BoolPost.of HQ.out.symm (HP.out.trans hm.1)

end Go.Proofs.YtkkndblcejmmjaaGreatDoor

/- IndexFunc and ContainsFunc of decisions. -/
namespace Go.Proofs.YtkkndblcejmmjaaGreatDoor
set_option linter.unusedVariables false
set_option linter.unusedSimpArgs false
open Go.RowKit


set_option maxRecDepth 100000 in
set_option maxHeartbeats 1000000 in
theorem indexDc_calls (w : World) (v : Value) (xs : List DecR) (F : Nat) (c1 : Value) (P : DecR → Bool) (hv : Sl w 40 6 v (decV xs))
  (hcf : ∀ (x : DecR) (W : World), Sem.run Tryz.prog (callFunc F #[.agg #[.int .i64 x.no, .int .i64 x.at_, .string ⟨x.rev.toArray⟩, .string ⟨x.item.toArray⟩, .bool x.sec, .slice x.A x.vals.length x.c], c1]) W = .ok (.enter F #[.agg #[.int .i64 x.no, .int .i64 x.at_, .string ⟨x.rev.toArray⟩, .string ⟨x.item.toArray⟩, .bool x.sec, .slice x.A x.vals.length x.c], c1]) W)
  (hF : ∀ (x : DecR) (W : World), x ∈ xs → Pure w W → Calls Tryz.prog F #[.agg #[.int .i64 x.no, .int .i64 x.at_, .string ⟨x.rev.toArray⟩, .string ⟨x.item.toArray⟩, .bool x.sec, .slice x.A x.vals.length x.c], c1] W (BoolPost W (P x))) :
  Calls Tryz.prog 141 #[v, .func (.func F) #[] #[c1]] w (IntPost w (idxQ P xs 0)) := by
 have HF := Lib.hid hF
 obtain ⟨A, n, c, rfl, hc1, hc2, hl, hr⟩ := hv
 have hln : xs.length = n := by rw [decV_len] at hl; omega
 subst hln
 have HR := Lib.hid hr
 clear hF hl hr
 go_enter Tryz.func141, Tryz.ntmps141
 go_wp2_with fail
 go_loopg [8] xs.length (fun gk i wr => ∃ k : Nat, xs.length - k = gk ∧ k ≤ xs.length ∧ i = .int .i64 (k : Int) ∧ idxQ P xs 0 = idxQ P (xs.drop k) (k : Int) ∧ Pure w wr)
 case atStart => exact ⟨0, by omega, by omega, rfl, rfl, Mod.refl _ _⟩
 case round =>
  obtain ⟨k, rfl, hk, rfl, hix, hm⟩ := hrel
  have HIX := Lib.hid hix
  clear hix
  by_cases hlt : k < xs.length
  ·obtain ⟨g, off, rfl, hrow⟩ := HR.out (by omega)
   have hget := decV_get xs k hlt
   have hq0 := (hrow.mod hm id).cell (hget.1)
   have hq1 := (hrow.mod hm id).cell (hget.2.1)
   rw [← Nat.add_assoc] at hq1
   have hq2 := (hrow.mod hm id).cell (hget.2.2.1)
   rw [← Nat.add_assoc] at hq2
   have hq3 := (hrow.mod hm id).cell (hget.2.2.2.1)
   rw [← Nat.add_assoc] at hq3
   have hq4 := (hrow.mod hm id).cell (hget.2.2.2.2.1)
   rw [← Nat.add_assoc] at hq4
   have hq5 := (hrow.mod hm id).cell (hget.2.2.2.2.2)
   rw [← Nat.add_assoc] at hq5
   clear hget
   have hd : xs.drop k = xs[k] :: xs.drop (k + 1) := List.drop_eq_getElem_cons hlt
   have hcall := HF.out xs[k] wr (List.getElem_mem hlt) hm
   have hi2 : idxQ P xs 0 = if P xs[k] then (k : Int) else idxQ P (xs.drop (k + 1)) ((k : Int) + 1) := by rw [HIX.out, hd]; rfl
   have HI2 := Lib.hid hi2
   have HC := Lib.hid hcall
   clear hd hi2 hcall hrow HIX
   generalize xs[k] = x at *
   go_wp2_with fail
   refine HC.out.mono ?_
   rintro e w1 ⟨rfl, hm1⟩
   cases hp : P x
   ·go_wp2_with fail
    go_roundg (xs.length - (k + 1))
    case measure => omega
    case rel => exact ⟨k + 1, rfl, hlt, by simp, by rw [HI2.out, hp]; simp, hm.trans hm1⟩
   ·go_wp2_with fail
    go_ret
    exact IntPost.of (by rw [HI2.out, hp]; rfl) (hm.trans hm1)
  ·have hke : k = xs.length := by omega
   subst hke
   go_wp2_with fail
   go_ret
   exact IntPost.of (by rw [HIX.out, List.drop_of_length_le (Nat.le_refl _)]; rfl) hm


set_option maxRecDepth 100000 in
set_option maxHeartbeats 1000000 in
theorem containsDc_calls (w : World) (v : Value) (xs : List DecR) (F : Nat) (c1 : Value) (P : DecR → Bool) (hv : Sl w 40 6 v (decV xs))
  (hcf : ∀ (x : DecR) (W : World), Sem.run Tryz.prog (callFunc F #[.agg #[.int .i64 x.no, .int .i64 x.at_, .string ⟨x.rev.toArray⟩, .string ⟨x.item.toArray⟩, .bool x.sec, .slice x.A x.vals.length x.c], c1]) W = .ok (.enter F #[.agg #[.int .i64 x.no, .int .i64 x.at_, .string ⟨x.rev.toArray⟩, .string ⟨x.item.toArray⟩, .bool x.sec, .slice x.A x.vals.length x.c], c1]) W)
  (hF : ∀ (x : DecR) (W : World), x ∈ xs → Pure w W → Calls Tryz.prog F #[.agg #[.int .i64 x.no, .int .i64 x.at_, .string ⟨x.rev.toArray⟩, .string ⟨x.item.toArray⟩, .bool x.sec, .slice x.A x.vals.length x.c], c1] W (BoolPost W (P x))) :
  Calls Tryz.prog 89 #[v, .func (.func F) #[] #[c1]] w (BoolPost w (xs.any P)) := by
 have HC := Lib.hid (indexDc_calls w v xs F c1 P hv hcf hF)
 have HI := Lib.hid (idxQ_any P xs 0 (by omega))
 clear hcf hF
 obtain ⟨A, n, c, rfl⟩ := hv.form
 clear hv
 go_enter Tryz.func89, Tryz.ntmps89
 go_wp2_with fail
 refine HC.out.mono ?_
 rintro e w1 ⟨rfl, hm1⟩
 generalize idxQ P xs 0 = r at *
 go_wp2_with fail
 go_ret
 exact BoolPost.of HI.out.symm hm1


end Go.Proofs.YtkkndblcejmmjaaGreatDoor

/- DecisionsOf$1 of the reference. -/
namespace Go.Proofs.YtkkndblcejmmjaaGreatDoor
set_option linter.unusedVariables false
set_option linter.unusedSimpArgs false
open Go.RowKit

set_option maxRecDepth 100000 in
set_option maxHeartbeats 8000000 in
theorem dof1_calls (w : World) (g10 : Nat) (x y : DecR) (hB : Blk w g10 40 (decC y).toArray) (hx : DecEl w x) (hy : DecEl w y) : Calls Tryz.prog 90 #[DecVal x, .pointer (some ⟨g10, 0, none⟩)] w (BoolPost w (decEq x y)) := by
 have HC := Lib.hid (fun W (h : Pure w W) => sameDecision_calls W x y (hx.pure h) (hy.pure h))
 obtain ⟨xno, xat, xrev, xitem, xsec, xA, xc, xs⟩ := x
 obtain ⟨yno, yat, yrev, yitem, ysec, yA, yc, ys⟩ := y
 simp only [DecVal.eq, decC] at *
 have HP : Hid (Pure w (w.alloc (.cells #[.int .i64 xno, .int .i64 xat, .string ⟨xrev.toArray⟩, .string ⟨xitem.toArray⟩, .bool xsec, .slice xA xs.length xc] 40))) := Lib.hid (pure_alloc _ _)
 have HX := Lib.hid (Blk.new w 40 #[.int .i64 xno, .int .i64 xat, .string ⟨xrev.toArray⟩, .string ⟨xitem.toArray⟩, .bool xsec, .slice xA xs.length xc])
 have HY := Lib.hid (hB.alloc (.cells #[.int .i64 xno, .int .i64 xat, .string ⟨xrev.toArray⟩, .string ⟨xitem.toArray⟩, .bool xsec, .slice xA xs.length xc] 40))
 generalize decEq _ _ = q at *
 clear hx hy hB
 go_enter Tryz.func90, Tryz.ntmps90
 go_upto_region 1 with (fail)
 generalize (w.alloc (.cells #[.int .i64 xno, .int .i64 xat, .string ⟨xrev.toArray⟩, .string ⟨xitem.toArray⟩, .bool xsec, .slice xA xs.length xc] 40)) = w2 at *
 generalize w.heap.size = g3 at *
 have hX := HX.out
 have hY := HY.out
 have d0 := hX.cell 0; have d1 := hX.cell 1; have d2 := hX.cell 2; have d3 := hX.cell 3; have d4 := hX.cell 4; have d5 := hX.cell 5; simp at d0 d1 d2 d3 d4 d5
 have e0 := hY.cell 0; have e1 := hY.cell 1; have e2 := hY.cell 2; have e3 := hY.cell 3; have e4 := hY.cell 4; have e5 := hY.cell 5; simp at e0 e1 e2 e3 e4 e5
 clear hX hY HX HY
 go_wp2_with fail
 refine (HC.out _ HP.out).mono ?_
 rintro e w3 ⟨rfl, hm⟩
 go_wp2_with fail
 go_ret
 exact BoolPost.of rfl (HP.out.trans hm)

end Go.Proofs.YtkkndblcejmmjaaGreatDoor
