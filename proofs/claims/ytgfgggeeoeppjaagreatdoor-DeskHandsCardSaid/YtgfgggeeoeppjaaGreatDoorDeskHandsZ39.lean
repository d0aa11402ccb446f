/- Texts of the proof of DeskHands, put together: DskE, DskN, ItmK, ItmL, ItmM, AnyX, GenE, DskW, LayFie, RdA, RdB, LawR. -/
import Derived.Test.YtgfgggeeoeppjaaGreatDoorDeskHandsZ10
import Derived.Test.YtgfgggeeoeppjaaGreatDoorDeskHandsZ11
import Derived.Test.YtgfgggeeoeppjaaGreatDoorDeskHandsZ12
import Derived.Test.YtgfgggeeoeppjaaGreatDoorDeskHandsZ17
import Derived.Test.YtgfgggeeoeppjaaGreatDoorDeskHandsZ23
import Derived.Test.YtgfgggeeoeppjaaGreatDoorDeskHandsZ24
import Derived.Test.YtgfgggeeoeppjaaGreatDoorDeskHandsZ25
import Derived.Test.YtgfgggeeoeppjaaGreatDoorDeskHandsZ26
import Derived.Test.YtgfgggeeoeppjaaGreatDoorDeskHandsZ36
import Derived.Test.YtgfgggeeoeppjaaGreatDoorDeskHandsZ37
import Derived.Test.YtgfgggeeoeppjaaGreatDoorDeskHandsZ38
import Derived.Deep.DeepCutAuto
import Derived.Deep.CutBlock
import Derived.Ground.NamesProg
import Derived.Shelf.Strings.Fields
import Derived.Test.YtgfgggeeoeppjaaGreatDoorProg
import Derived.Lib.LaidTab
import Derived.Deep.AppendLies
set_option linter.unusedVariables false
set_option linter.unusedSimpArgs false
set_option maxRecDepth 100000
/- Batches and Progress of the program. -/
namespace Go.Proofs.YtgfgggeeoeppjaaGreatDoor
open Go.RowKit
def BsPost (w : World) (ks : List BatK) (e : Ending) (w' : World) : Prop := ∃ (A : Option Addr) (c : Nat) (xs : List BatR), e = .returned (.slice A xs.length c) ∧ BatO w' w.heap.size A c xs ks ∧ Pure w w'
set_option maxHeartbeats 8000000 in
theorem batches_calls (w : World) (g bm : Nat) (bo : Option Nat) (ids : List Str) (d : DskR) (hD : DkP w g bm bo ids d) (hO : DkOk ids d) :
  Calls Tryz.prog 21 #[.pointer (some ⟨g, 0, none⟩)] w (BsPost w d.bats) := by
 obtain ⟨i0, hi0, hz0, hz1, hz2⟩ := info_parts info_bat
 obtain ⟨FA, fc, fms, BA, bc, bts, hB, hF, hfe, hS, hBT, hbo⟩ := hD;have HB := Lib.hid hB;have HBT := Lib.hid hBT
 have hb9 : bts.length ≤ 1000 := by have := hBT.kl; have := hO.bl; omega
 have HBZ := Lib.hid (fun k (h : k < bts.length) => show bts[k].items.length ≤ 1000 from hO.bz bts[k].key (by rw [← hBT.2.2]; exact List.mem_map_of_mem (List.getElem_mem h)));have HKT := Lib.hid (fun k (h : k < bts.length) => show d.bats.take (k + 1) = d.bats.take k ++ [bts[k].key] by rw [← hBT.2.2, ← List.map_take, ← List.map_take, List.take_succ_eq_append_getElem h, List.map_append]; rfl);have HKE := Lib.hid (show d.bats.take bts.length = d.bats from List.take_of_length_le (by rw [hBT.kl]; exact Nat.le_refl _));obtain ⟨base, hba⟩ : ∃ base, base = w.heap.size := ⟨_, rfl⟩;have hb1 := Nat.le_of_eq hba;have hb2 := Nat.le_of_eq hba.symm;unfold BsPost;rw [← hba];clear hB hF hfe hS hBT hbo hO hba;have hx := HB.out;have x0 := hx.cell 0; have x1 := hx.cell 1; have x2 := hx.cell 2; have x3 := hx.cell 3; simp at x0 x1 x2 x3;clear hx
 go_enter Tryz.func21, Tryz.ntmps21
 go_wp2_with fail
 go_loopg [3, 11] bts.length (fun gk v i wr => ∃ (k cap : Nat) (Ao : Option Addr) (xs : List BatR), bts.length - k = gk ∧ k ≤ bts.length ∧ v = .slice Ao xs.length cap ∧ i = .int .i64 (k : Int) ∧ xs.length ≤ k ∧ BatO wr base Ao cap xs (d.bats.take k) ∧ Pure w wr ∧ base ≤ wr.heap.size)
 case atStart => exact ⟨0, 0, none, [], by omega, by omega, rfl, rfl, by simp, ⟨World.ownsRow_nil _ _ _ _, fun x h => absurd h (by simp), rfl⟩, Mod.refl _ _, hb1⟩
 case round =>
  clear x0 x1 x2 x3;obtain ⟨k, cap, Ao, xs, rfl, hk, rfl, rfl, hxk, hO, hm, hsz⟩ := hrel
  by_cases hlt : k < bts.length
  ·obtain ⟨gB, rfl, q0, q1, q2, q3, q4, _⟩ := (HBT.out.pure hm).cells hlt;have HSX := Lib.hid ((HBT.out.pure hm).2.1 _ (List.getElem_mem hlt));have hbz := HBZ.out k hlt;have HKT2 := Lib.hid (HKT.out k hlt);obtain ⟨wr', hwr'⟩ : ∃ W, W = wr := ⟨wr, rfl⟩;subst hwr';have HXO := Lib.hid hO;have HM := Lib.hid hm;clear hO hm;generalize bts[k] = x at *;obtain ⟨xn, xo, xi, xr, xA, xc, xt⟩ := x;simp only at q0 q1 q2 q3 q4 HSX hbz HKT2;have hpa := pure_alloc wr' (.cells #[.int .i64 xn, .int .i64 xo, .int .i64 xi, .string ⟨xr.toArray⟩, .slice xA xt.length xc] 42);have HB5 := Lib.hid (Blk.new wr' 42 #[.int .i64 xn, .int .i64 xo, .int .i64 xi, .string ⟨xr.toArray⟩, .slice xA xt.length xc]);have HX5 := Lib.hid (HXO.out.pure hpa);have HS5 := Lib.hid (HSX.out.pure hpa);have HM5 := Lib.hid (HM.out.trans hpa);have HLT := Lib.hid (fun j (hj : (Value.slice Ao xs.length cap).ownBlock = some j) => show j < wr'.heap.size by obtain ⟨arr, h⟩ := own_heap HXO.out.1 hj; exact lt_of_heap h);have hg5s : base ≤ wr'.heap.size := hsz;clear hpa HXO HSX HM
   go_upto_region 5 with (fail)
   generalize (wr'.alloc (.cells #[.int .i64 xn, .int .i64 xo, .int .i64 xi, .string ⟨xr.toArray⟩, .slice xA xt.length xc] 42)) = w5 at *;generalize wr'.heap.size = gy at *;clear q0 q1 q2 q3 q4;have HCL := Lib.hid (cloneC_calls w5 _ xt HS5.out (by omega));have hx := HB5.out;have x0 := hx.cell 0; have x1 := hx.cell 1; have x2 := hx.cell 2; have x3 := hx.cell 3; have x4 := hx.cell 4; simp at x0 x1 x2 x3 x4;clear hx
   go_wp2_with fail
   refine HCL.out.mono ?_;rintro e w6 ⟨v, rfl, hown6, hm6⟩;obtain ⟨Ac, nc, cc, rfl⟩ := (Sl.of_own hown6).form;have hnc := Sl.lenS (Sl.of_own hown6);subst hnc;have hB6 := HB5.out.modp hm6;have HB6 := Lib.hid hB6;have hm7 : Mod (· = gy) w6 (w6.setCell ⟨gy, 4, none⟩ (.slice Ac xt.length cc)) := (Mod.refl (· = gy) w6).setCell (.inl rfl) _;have hB7 := hB6.set 4 (.slice Ac xt.length cc);have HB7 : Hid (Blk (w6.setCell ⟨gy, 4, none⟩ (.slice Ac xt.length cc)) gy 42 #[.int .i64 xn, .int .i64 xo, .int .i64 xi, .string ⟨xr.toArray⟩, .slice Ac xt.length cc]) := Lib.hid (by simpa using hB7);have HX7 := Lib.hid ((HX5.out.pure hm6).mod hm7 (fun j hj e => by have := HLT.out j hj; omega) (fun i arr fr hi => blk_ty2 hB6 hi (by decide)));have HS7 := Lib.hid ((Sl.of_own hown6).mod hm7 (fun i arr fr hi => blk_ty2 hB6 hi (by decide)));have HM7 := Lib.hid ((HM5.out.trans hm6).trans' hm7 (fun i hi hlt => by omega))
   have hw7s : base ≤ (w6.setCell ⟨gy, 4, none⟩ (.slice Ac xt.length cc)).heap.size := by have := HM7.out.size; omega
   clear x0 x1 x2 x3 x4;have t0 := hB6.cell 0; have tf0 := hB6.frozen 0; have t1 := hB6.cell 1; have tf1 := hB6.frozen 1; have t2 := hB6.cell 2; have tf2 := hB6.frozen 2; have t3 := hB6.cell 3; have tf3 := hB6.frozen 3; have t4 := hB6.cell 4; have tf4 := hB6.frozen 4; simp at t0 t1 t2 t3 t4;clear hB6 hB7 hm6 hm7 hown6 HCL HX5 HS5 HM5 HB5
   go_upto_region 6 with (fail)
   generalize (w6.setCell ⟨gy, 4, none⟩ (.slice Ac xt.length cc)) = w7 at *;clear t0 t1 t2 t3 t4 tf0 tf1 tf2 tf3 tf4;have hx := HB7.out;have x0 := hx.cell 0; have x1 := hx.cell 1; have x2 := hx.cell 2; have x3 := hx.cell 3; have x4 := hx.cell 4; simp at x0 x1 x2 x3 x4;have hownS := HX7.out.1;have hmS := HM7.out;clear hx
   go_wp2_with ((at_builtin; refine wpList_append_lies _ rfl _ _ _ rfl base 42 i0 _ 5 64 Tryz.underlying48 hi0 hz0 hz1 hz2 rfl (by omega) (.slice Ao xs.length cap) xs.length (batV xs) rfl (hownS.alloc _) ⟨w7.heap.size, 0, none⟩ 1 1 [.int .i64 xn, .int .i64 xo, .int .i64 xi, .string ⟨xr.toArray⟩, .slice Ac xt.length cc] rfl rfl (World.news_of_block (cs := #[.int .i64 xn, .int .i64 xo, .int .i64 xi, .string ⟨xr.toArray⟩, .slice Ac xt.length cc]) (t := 42) (fr := (0, 0)) (heap_alloc_new w7 _)) (by simp [Value.oneCell']) (by omega) (by simp [maxLen]; omega) (by omega) (by have := hmS.size; simp; omega) (w7.heap.size + 1) (by simp) ?_; intro g5 cap5 w5 hown5 hgrow hat hlt5))
   go_roundg (bts.length - (k + 1))
   case measure => omega
   case rel =>
    have hpal := pure_alloc w7 (.cells #[.int .i64 xn, .int .i64 xo, .int .i64 xi, .string ⟨xr.toArray⟩, .slice Ac xt.length cc] 42);have hob := own_block (HX7.out.1.alloc (.cells #[.int .i64 xn, .int .i64 xo, .int .i64 xi, .string ⟨xr.toArray⟩, .slice Ac xt.length cc] 42));have hV := BatO.app (x := ⟨xn, xo, xi, xr, Ac, cc, xt⟩) (HX7.out.pure hpal) (HS7.out.pure hpal) (mod_grown hgrow) rfl hown5;refine ⟨k + 1, cap5, some ⟨g5, 0, none⟩, xs ++ [⟨xn, xo, xi, xr, Ac, cc, xt⟩], rfl, by omega, by simp, by simp, by simp; omega, ?_, (HM7.out.trans hpal).trans' (mod_grown hgrow) (fun i hi hlt => by have := hob i hi; omega), by have := hgrow.size; simp at this; omega⟩;rw [HKT2.out];exact hV
  ·obtain rfl : k = bts.length := by omega
   rw [HKE.out] at hO;have HOO := Lib.hid hO;have HM := Lib.hid hm;clear hO hm
   go_wp2_with fail
   go_ret;exact ⟨Ao, cap, xs, rfl, HOO.out, HM.out⟩
end Go.Proofs.YtgfgggeeoeppjaaGreatDoor
/- SameBatch; slices.EqualFunc of batches. -/
namespace Go.Proofs.YtgfgggeeoeppjaaGreatDoor
open Go.RowKit
def batEq (x y : BatR) : Bool := decide (x.no = y.no) && (decide (x.out = y.out) && (decide (x.inn = y.inn) && (decide (x.rev = y.rev) && decide (x.items = y.items))))
theorem batEq_key (x y : BatR) : batEq x y = true ↔ x.key = y.key := by
 unfold batEq BatR.key;simp only [Bool.and_eq_true, decide_eq_true_eq, Prod.mk.injEq]
def BatEl (W : World) (x : BatR) : Prop := Sl W 9 1 (.slice x.A x.items.length x.c) (strsV x.items)
theorem BatEl.pure {x : BatR} {w w' : World} (h : BatEl w x) (hm : Pure w w') : BatEl w' x := Sl.pure h hm
def Bats (W : World) (v : Value) (xs : List BatR) : Prop := Sl W 42 5 v (batV xs) ∧ BatS W xs
theorem Bats.pure {xs : List BatR} {w w' : World} {v : Value} (h : Bats w v xs) (hm : Pure w w') : Bats w' v xs := ⟨h.1.pure hm, h.2.pure hm⟩
theorem Bats.el {w : World} {v : Value} {xs : List BatR} (h : Bats w v xs) {k : Nat} (hk : k < xs.length) : BatEl w xs[k] := h.2 _ (List.getElem_mem hk)
theorem BatO.bats {w : World} {base c : Nat} {A : Option Addr} {xs : List BatR} {ks : List BatK} (h : BatO w base A c xs ks) : Bats w (.slice A xs.length c) xs := ⟨Sl.of_own h.1, h.2.1⟩
theorem Bats.len {w : World} {A : Option Addr} {n c : Nat} {xs : List BatR} (h : Bats w (.slice A n c) xs) : xs.length = n := by
 obtain ⟨⟨A', n', c', e, _, _, hl, _⟩, _⟩ := h
 injection e with _ e2 _
 rw [batV_len] at hl
 omega
theorem Bats.cells {w : World} {A : Option Addr} {n c : Nat} {xs : List BatR} (h : Bats w (.slice A n c) xs) {k : Nat} (hk : k < xs.length) : ∃ g off, A = some ⟨g, off, none⟩ ∧ w.cell? ⟨g, off + k * 5, none⟩ = some (.int .i64 xs[k].no) ∧ w.cell? ⟨g, off + k * 5 + 1, none⟩ = some (.int .i64 xs[k].out) ∧
  w.cell? ⟨g, off + k * 5 + 2, none⟩ = some (.int .i64 xs[k].inn) ∧ w.cell? ⟨g, off + k * 5 + 3, none⟩ = some (.string ⟨xs[k].rev.toArray⟩) ∧ w.cell? ⟨g, off + k * 5 + 4, none⟩ = some (.slice xs[k].A xs[k].items.length xs[k].c) := by
 have hl := h.len;obtain ⟨⟨A', n', c', e, _, _, _, hr⟩, _⟩ := h
 injection e with e1 e2 e3
 subst e1 e2;obtain ⟨g, off, rfl, hrow⟩ := hr (by omega);obtain ⟨h0, h1, h2, h3, h4⟩ := batV_get xs k hk;refine ⟨g, off, rfl, hrow.cell h0, ?_, ?_, ?_, ?_⟩
 ·have := hrow.cell h1; rwa [← Nat.add_assoc] at this
 ·have := hrow.cell h2; rwa [← Nat.add_assoc] at this
 ·have := hrow.cell h3; rwa [← Nat.add_assoc] at this
 ·have := hrow.cell h4; rwa [← Nat.add_assoc] at this
set_option maxHeartbeats 2000000 in
theorem sameBatch_calls (w : World) (x y : BatR) (hx : BatEl w x) (hy : BatEl w y) : Calls Tryz.prog 17 #[.agg #[.int .i64 x.no, .int .i64 x.out, .int .i64 x.inn, .string ⟨x.rev.toArray⟩, .slice x.A x.items.length x.c], .agg #[.int .i64 y.no, .int .i64 y.out, .int .i64 y.inn, .string ⟨y.rev.toArray⟩, .slice y.A y.items.length y.c]] w (BoolPost w (batEq x y)) := by
 obtain ⟨xn, xo, xi, xr, xA, xc, xs⟩ := x;obtain ⟨yn, yo, yi, yr, yA, yc, ys⟩ := y;simp only;have hp : Pure w ((w.alloc (.cells #[.int .i64 xn, .int .i64 xo, .int .i64 xi, .string ⟨xr.toArray⟩, .slice xA xs.length xc] 42)).alloc (.cells #[.int .i64 yn, .int .i64 yo, .int .i64 yi, .string ⟨yr.toArray⟩, .slice yA ys.length yc] 42)) := (pure_alloc _ _).trans (pure_alloc _ _);have HP := Lib.hid hp;have HE := Lib.hid (equalG_calls _ _ _ xs ys (Sl.pure hx hp) (Sl.pure hy hp));have HQ : Hid (batEq ⟨xn, xo, xi, xr, xA, xc, xs⟩ ⟨yn, yo, yi, yr, yA, yc, ys⟩ = (decide (xn = yn) && (decide (xo = yo) && (decide (xi = yi) && (decide (xr = yr) && decide (xs = ys)))))) := Lib.hid rfl;clear hp hx hy;generalize batEq ⟨xn, xo, xi, xr, xA, xc, xs⟩ ⟨yn, yo, yi, yr, yA, yc, ys⟩ = q at *
 by_cases ha : xn = yn
 rotate_left
 ·have ta : (xn == yn) = false := by simpa using ha
  have HQ2 : Hid (q = false) := Lib.hid (by rw [HQ.out]; simp [ha]);clear HQ ha HE
  go_enter Tryz.func17, Tryz.ntmps17
  go_wp2_with fail
  go_ret;exact BoolPost.of HQ2.out HP.out
 subst ha
 have ta : (xn == xn) = true := by simp
 by_cases hb : xo = yo
 rotate_left
 ·have tb : (xo == yo) = false := by simpa using hb
  have HQ2 : Hid (q = false) := Lib.hid (by rw [HQ.out]; simp [hb]);clear HQ hb HE
  go_enter Tryz.func17, Tryz.ntmps17
  go_wp2_with fail
  go_ret;exact BoolPost.of HQ2.out HP.out
 subst hb
 have tb : (xo == xo) = true := by simp
 by_cases hc : xi = yi
 rotate_left
 ·have tc : (xi == yi) = false := by simpa using hc
  have HQ2 : Hid (q = false) := Lib.hid (by rw [HQ.out]; simp [hc]);clear HQ hc HE
  go_enter Tryz.func17, Tryz.ntmps17
  go_wp2_with fail
  go_ret;exact BoolPost.of HQ2.out HP.out
 subst hc
 have tc : (xi == xi) = true := by simp
 by_cases hd : xr = yr
 rotate_left
 ·have td : (xr == yr) = false := by simpa using hd
  have HQ2 : Hid (q = false) := Lib.hid (by rw [HQ.out]; simp [hd]);clear HQ hd HE
  go_enter Tryz.func17, Tryz.ntmps17
  go_wp2_with fail
  go_ret;exact BoolPost.of HQ2.out HP.out
 subst hd
 have td : (xr == xr) = true := by simp
 have HQ2 : Hid (q = decide (xs = ys)) := Lib.hid (by rw [HQ.out]; simp);clear HQ;generalize decide (xs = ys) = fc at *
 go_enter Tryz.func17, Tryz.ntmps17
 go_wp2_with fail
 refine HE.out.mono ?_;rintro e w1 ⟨rfl, m1⟩
 go_wp2_with fail
 go_ret;exact BoolPost.of HQ2.out (HP.out.trans m1)
set_option maxHeartbeats 2000000 in
theorem equalBat_calls (w : World) (v1 v2 : Value) (xs ys : List BatR) (h1 : Bats w v1 xs) (h2 : Bats w v2 ys) :
  Calls Tryz.prog 20 #[v1, v2, .func (.func 17) #[] #[]] w (BoolPost w (eqL batEq xs ys)) := by
 obtain ⟨A1, n1, c1, rfl⟩ := h1.1.form;obtain ⟨A2, n2, c2, rfl⟩ := h2.1.form
 have hb : n1 ≤ 9223372036854775807 := by have := Sl.capL h1.1; omega
 have hn1 := h1.len;have hn2 := h2.len;subst hn1 hn2;have H1 := Lib.hid h1;have H2 := Lib.hid h2;have hcf : ∀ (x y : Value) (W : World), Sem.run Tryz.prog (callFunc 17 #[x, y]) W = .ok (.enter 17 #[x, y]) W := fun _ _ _ => rfl;clear h1 h2
 by_cases hlen : xs.length = ys.length
 ·have HLN := Lib.hid hlen;have hlx := Nat.le_of_eq hlen;have hly := Nat.le_of_eq hlen.symm
  have hne : ((xs.length : Int) != (ys.length : Int)) = false := by rw [hlen]; simp
  clear hlen
  go_enter Tryz.func20, Tryz.ntmps20
  go_wp2_with fail
  go_loopg [17] xs.length (fun gk i wr => ∃ k : Nat, xs.length - k = gk ∧ k ≤ xs.length ∧ i = .int .i64 (k : Int) ∧ Hid (eqL batEq (xs.drop k) (ys.drop k) = eqL batEq xs ys) ∧ Pure w wr)
  case atStart => exact ⟨0, by omega, by omega, rfl, Lib.hid rfl, Mod.refl _ _⟩
  case round =>
   obtain ⟨k, rfl, hk, rfl, HT, hm⟩ := hrel
   by_cases hlt : k < xs.length
   ·have hky : k < ys.length := by omega
    obtain ⟨g1, o1, rfl, q0, q1, q2, q3, q4⟩ := Bats.cells (H1.out.pure hm) hlt;obtain ⟨g2, o2, rfl, p0, p1, p2, p3, p4⟩ := Bats.cells (H2.out.pure hm) hky;have s1 := Bats.el (H1.out.pure hm) hlt;have s2 := Bats.el (H2.out.pure hm) hky;have HS0 := Lib.hid (eqL_step batEq hlt hky);have HC := Lib.hid (fun W (h : Pure wr W) => sameBatch_calls W xs[k] ys[k] (BatEl.pure s1 h) (BatEl.pure s2 h));clear s1 s2;generalize xs[k] = x at *;generalize ys[k] = y at *;have r0 := cell_alloc p0 (.cells #[.int .i64 x.no, .int .i64 x.out, .int .i64 x.inn, .string ⟨x.rev.toArray⟩, .slice x.A x.items.length x.c] 42);have r1 := cell_alloc p1 (.cells #[.int .i64 x.no, .int .i64 x.out, .int .i64 x.inn, .string ⟨x.rev.toArray⟩, .slice x.A x.items.length x.c] 42);have r2 := cell_alloc p2 (.cells #[.int .i64 x.no, .int .i64 x.out, .int .i64 x.inn, .string ⟨x.rev.toArray⟩, .slice x.A x.items.length x.c] 42);have r3 := cell_alloc p3 (.cells #[.int .i64 x.no, .int .i64 x.out, .int .i64 x.inn, .string ⟨x.rev.toArray⟩, .slice x.A x.items.length x.c] 42);have r4 := cell_alloc p4 (.cells #[.int .i64 x.no, .int .i64 x.out, .int .i64 x.inn, .string ⟨x.rev.toArray⟩, .slice x.A x.items.length x.c] 42);have HP : Hid (Pure wr ((wr.alloc (.cells #[.int .i64 x.no, .int .i64 x.out, .int .i64 x.inn, .string ⟨x.rev.toArray⟩, .slice x.A x.items.length x.c] 42)).alloc (.cells #[.int .i64 y.no, .int .i64 y.out, .int .i64 y.inn, .string ⟨y.rev.toArray⟩, .slice y.A y.items.length y.c] 42))) := Lib.hid ((pure_alloc _ _).trans (pure_alloc _ _));have HM := Lib.hid (hm.trans HP.out);have HC2 := Lib.hid (HC.out _ HP.out);have HNX := Lib.hid (HT.out.symm.trans HS0.out)
    have i1 : (0 : Int) ≤ (k : Int) := by omega
    have i2 : (k : Int) < (xs.length : Int) := by omega
    have i3 : (k : Int) < (ys.length : Int) := by omega
    clear hm HT HS0 HC p0 p1 p2 p3 p4;generalize batEq x y = fb at *
    go_wp2_with fail
    refine HC2.out.mono ?_;rintro e w1 ⟨rfl, hm1⟩
    cases fb
    ·have HZ := HNX.out;rw [Bool.false_and] at HZ;have HZ2 := Lib.hid HZ;clear HNX HZ
     go_wp2_with fail
     go_ret;exact BoolPost.of HZ2.out (HM.out.trans hm1)
    ·have HZ := HNX.out;rw [Bool.true_and] at HZ;have HZ2 := Lib.hid HZ;clear HNX HZ
     go_wp2_with fail
     go_roundg (xs.length - (k + 1))
     case measure => omega
     case rel => exact ⟨k + 1, rfl, by omega, by simp, Lib.hid HZ2.out.symm, HM.out.trans hm1⟩
   ·have HZ : Hid (eqL batEq xs ys = true) := Lib.hid (by
     rw [← HT.out, List.drop_of_length_le (by omega), List.drop_of_length_le (by have := HLN.out; omega)]; rfl)
    have hke : k = xs.length := by omega
    subst hke;clear HT
    go_wp2_with fail
    go_ret;exact BoolPost.of HZ.out hm
 ·have HZ : Hid (eqL batEq xs ys = false) := Lib.hid (eqL_len batEq hlen)
  have hne : ((xs.length : Int) != (ys.length : Int)) = true := by rw [bne_iff_ne]; omega
  clear hlen
  go_enter Tryz.func20, Tryz.ntmps20
  go_wp2_with fail
  go_ret;exact BoolPost.of HZ.out (Mod.refl _ _)
theorem eqBat_iff {xs ys : List BatR} : eqL batEq xs ys = true ↔ xs.map BatR.key = ys.map BatR.key := eqL_map batEq_key
end Go.Proofs.YtgfgggeeoeppjaaGreatDoor
/- The generators of items: itemId, ItemText, Item. -/
namespace Go.Proofs.YtgfgggeeoeppjaaGreatDoor
open Go.RowKit
def ItG (x : Itm) : Prop := x.id.length ≤ 100 ∧ x.cust.length ≤ 30000 ∧ x.name.length ≤ 30000 ∧ x.par.length ≤ 30000 ∧ x.text.length ≤ 29000
theorem ItG.b {x : Itm} (h : ItG x) : ItB x := ⟨h.1, h.2.1, h.2.2.1, h.2.2.2.1, by have := h.2.2.2.2; omega⟩
def StrB (w : World) (b N M : Nat) (e : Ending) (w' : World) : Prop := ∃ s : Str, s.length ≤ M ∧ e = .returned (.string ⟨s.toArray⟩) ∧ Strm w' b N ∧ Mod (· = b) w w'
theorem someb_calls (w : World) (b N g c n : Nat) (ss : List Str) (M : Nat) (hn : n = ss.length) (hM : ∀ s ∈ ss, s.length ≤ M) (hS : Strm w b N) (hN : N ≤ 1000000000) (hx : Blk w g 9 (strsV ss).toArray) (hgb : g ≠ b) (h0 : 0 < ss.length) (hl : ss.length ≤ 1000) :
  Calls Tryz.prog 43 #[.pointer (some ⟨b, 0, none⟩), .slice (some ⟨g, 0, none⟩) n c] w (StrB w b (N + 1) M) := by
 subst hn;refine (some_calls w b N g c ss hS hN hx hgb h0 hl).mono ?_;rintro e w' ⟨s, hs, rfl, h1, h2⟩;exact ⟨s, hM s hs, rfl, h1, h2⟩
theorem le_cons {M : Nat} {s : Str} {ss : List Str} (h : s.length ≤ M) (hs : ∀ s ∈ ss, s.length ≤ M) : ∀ t ∈ s :: ss, t.length ≤ M := fun t ht => by
 rcases List.mem_cons.1 ht with rfl | ht
 ·exact h
 ·exact hs t ht
theorem le_nil {M : Nat} : ∀ t ∈ ([] : List Str), t.length ≤ M := fun t ht => absurd ht (by simp)
theorem repeatA_calls (w : World) (n : Nat) (h2 : 2 ≤ n) (hn : n ≤ 100000) : Calls Tryz.prog 101 #[.string ⟨#[97]⟩, .int .i64 (n : Int)] w (fun e w' => ∃ s : Str, s.length = n ∧ e = .returned (.string ⟨s.toArray⟩) ∧ Pure w w') := by
 refine (Any.strings_Repeat_main Tryz.lays105 bldExtra5 ⟨#[97]⟩ n w h2 (by omega) (by simp [ByteArray.size]; omega) (by simp [ByteArray.size])).mono ?_;rintro e w' ⟨rfl, hb⟩;refine ⟨Lib.repeatL [97] n, by rw [Lib.repeatL_length]; simp, rfl, Mod.of_below hb⟩
def itS (i : Nat) : Str := [105, 97, 97 + UInt8.ofNat i]
set_option maxHeartbeats 1000000 in
theorem itemId_calls (w : World) (i : Nat) (hi : i < 26) : Calls Tryz.prog 44 #[.int .i64 (i : Int)] w (fun e w' => e = .returned (.string ⟨(itS i).toArray⟩) ∧ Pure w w') := by
 have e1 : Utf8.encode 97 = ⟨#[97]⟩ := enc_ascii 97 (by omega)
 have e2 : Utf8.encode (97 + (i : Int)) = ⟨#[UInt8.ofNat (97 + i)]⟩ := by
  have := enc_ascii (97 + i) (by omega)
  rwa [Int.natCast_add] at this
 have h1 : (i : Int).tdiv 26 = 0 := by
  rw [Int.tdiv_eq_ediv_of_nonneg (by omega)]
  omega
 have h1' : (i : Int) / 26 = 0 := by omega
 have h2 : (i : Int).tmod 26 = (i : Int) := by
  rw [Int.tmod_eq_emod_of_nonneg (by omega)]
  omega
 have h2' : (i : Int) % 26 = (i : Int) := by omega
 have hw : IntKind.i32.wrap (97 + (i : Int)) = 97 + (i : Int) := by simp [IntKind.wrap, IntKind.bits, IntKind.signed]; omega
 have hw1 : IntKind.i32.wrap 97 = 97 := by decide
 go_enter Tryz.func44, Tryz.ntmps44
 go_wp2_with fail
 go_ret;refine ⟨?_, Mod.refl _ _⟩;have h0 := bytes_app [105] [97];have h := bytes_app ([105] ++ [97]) [97 + UInt8.ofNat i];rw [← h0] at h;exact congrArg (fun x => Ending.returned (Value.string x)) h
def itWords : List Str := [[100, 101, 97, 108], [68, 101, 97, 108], [115, 105, 103, 110], [115, 105, 103, 110, 101, 100], [116, 104, 101], [102, 114, 105, 100, 97, 121], [99, 111, 110, 116, 114, 97, 99, 116], [120, 49], [99, 97, 102, 195, 169], [97, 110, 100]]
def itSeps : List Str := [[32], [32], [32], [44, 32], [45]]
def It1 (w : World) (b N m gk : Nat) (x i : Value) (wr : World) : Prop :=
 ∃ (j : Nat) (a : ByteArray), m - j = gk ∧ j ≤ m ∧ x = .string a ∧ i = .int .i64 (j : Int) ∧ a.size ≤ 100 * j ∧ Strm wr b (N + 1 + 20 * j) ∧ Mod (· = b) w wr
def It2 (w : World) (b N j m gk : Nat) (x i : Value) (wr : World) : Prop :=
 ∃ (k : Nat) (a : ByteArray), m - k = gk ∧ k ≤ m ∧ x = .string a ∧ i = .int .i64 (k : Int) ∧ a.size ≤ 100 * j + 10 * k ∧ Strm wr b (N + 1 + 20 * j + 1 + 2 * k) ∧ Mod (· = b) w wr
set_option maxHeartbeats 4000000 in
theorem itemText_calls (w : World) (b N : Nat) (hS : Strm w b N) (hN : N ≤ 900000000) : Calls Tryz.prog 100 #[.pointer (some ⟨b, 0, none⟩)] w (StrB w b (N + 61) 300) := by
 have hbl := hS.lt
 go_enter Tryz.func100, Tryz.ntmps100
 go_wp2_with fail
 refine (pickv_calls _ b _ w.heap.size _ _ #[.int .i64 0, .int .i64 1, .int .i64 1, .int .i64 2, .int .i64 3] (hS.alloc _) (Blk.new _ _ _) (by omega) (by omega) rfl (by decide) (by decide) rfl).mono ?_;rintro e w1 ⟨m, hmem, rfl, hS1, hM1⟩
 have hm02 : 0 ≤ m ∧ m ≤ 3 := by
  have : m = 0 ∨ m = 1 ∨ m = 1 ∨ m = 2 ∨ m = 3 := by simpa [intsOf, Go.RowKit.intOf] using hmem
  omega
 obtain ⟨hm0, hm2⟩ := hm02;obtain ⟨m, rfl⟩ := Int.eq_ofNat_of_zero_le hm0
 have hm2' : m ≤ 3 := by omega
 have m1 : Mod (· = b) w w1 := ((Mod.refl _ _).alloc _).trans hM1;clear hmem hS hM1 hm0 hm2 hbl
 go_wp2_with fail
 go_loopg [3, 8] m (fun gk x i wr => It1 w b N m gk x i wr)
 case atStart => exact ⟨0, ⟨#[]⟩, rfl, by omega, rfl, rfl, by simp [ByteArray.size], hS1.more (by omega), m1⟩
 case round =>
  clear hS1 m1;obtain ⟨j, a, rfl, hj, rfl, rfl, ha, hS1, hM1⟩ := hrel
  by_cases hlt : j < m
  ·go_wp2_with fail
   refine (range_calls _ b _ _ _ hS1 (by omega) (by omega) (by omega) (by omega)).mono ?_;rintro e w2 ⟨r, hr0, hr1, rfl, hS2, hM2⟩;obtain ⟨r, rfl⟩ := Int.eq_ofNat_of_zero_le hr0
   have hr6 : r ≤ 6 := by omega
   have m2 := hM1.trans hM2;clear hS1 hM1 hM2 hr0 hr1
   go_wp2_with fail
   go_loopg [3, 12] r (fun gk x i wr => It2 w b N j r gk x i wr)
   case atStart => exact ⟨0, a, rfl, by omega, rfl, rfl, by omega, hS2.more (by omega), m2⟩
   case round =>
    clear hS2 m2 ha;obtain ⟨k, a, rfl, hk, rfl, rfl, ha, hS2, m2⟩ := hrel;have hbl := hS2.lt
    by_cases hlk : k < r
    ·by_cases hk0 : k = 0
     ·subst hk0
      go_wp2_with fail
      refine (someb_calls _ b _ _ _ _ itWords 8 rfl (by decide) (hS2.alloc _) (by omega) (Blk.new _ _ _) (by omega) (by decide) (by decide)).mono ?_;rintro e w3 ⟨s, hs, rfl, hS3, hM3⟩;have m3 := (m2.alloc _).trans hM3
      have hz : (⟨s.toArray⟩ : ByteArray).size ≤ 8 := by simpa [ByteArray.size] using hs
      generalize (⟨s.toArray⟩ : ByteArray) = z at *;clear hS2 hM3 m2 hs
      go_wp2_with fail
      go_roundg (r - (0 + 1))
      case measure => omega
      case rel => exact ⟨0 + 1, _, rfl, by omega, rfl, by simp, by rw [ByteArray.size_append]; omega, hS3.more (by omega), m3⟩
     ·have hk1 : (0 : Int) < (k : Int) := by omega
      go_wp2_with fail
      refine (someb_calls _ b _ _ _ _ itSeps 2 rfl (by decide) (hS2.alloc _) (by omega) (Blk.new _ _ _) (by omega) (by decide) (by decide)).mono ?_;rintro e w3 ⟨s, hs, rfl, hS3, hM3⟩;have m3 := (m2.alloc _).trans hM3
      have hz : (⟨s.toArray⟩ : ByteArray).size ≤ 2 := by simpa [ByteArray.size] using hs
      generalize (⟨s.toArray⟩ : ByteArray) = z at *;have hbl3 := hS3.lt
      have hza : (a ++ z).size ≤ 100 * j + 10 * k + 2 := by rw [ByteArray.size_append]; omega
      clear hS2 hM3 m2 hs hbl
      go_wp2_with fail
      refine (someb_calls _ b _ _ _ _ itWords 8 rfl (by decide) (hS3.alloc _) (by omega) (Blk.new _ _ _) (by omega) (by decide) (by decide)).mono ?_;rintro e w4 ⟨s, hs, rfl, hS4, hM4⟩;have m4 := (m3.alloc _).trans hM4
      have hz2 : (⟨s.toArray⟩ : ByteArray).size ≤ 8 := by simpa [ByteArray.size] using hs
      generalize (⟨s.toArray⟩ : ByteArray) = z2 at *;generalize a ++ z = az at *;clear hS3 hM4 m3 hs hz ha
      go_wp2_with fail
      go_roundg (r - (k + 1))
      case measure => omega
      case rel => exact ⟨k + 1, _, rfl, by omega, rfl, by simp, by rw [ByteArray.size_append]; omega, hS4.more (by omega), m4⟩
    ·obtain rfl : k = r := by omega
     have hz1 : (⟨#[10]⟩ : ByteArray).size = 1 := rfl
     go_wp2_with fail
     go_roundg (m - (j + 1))
     case measure => omega
     case rel => exact ⟨j + 1, _, rfl, by omega, rfl, by simp, by rw [ByteArray.size_append]; omega, hS2.more (by omega), m2⟩
  ·obtain rfl : j = m := by omega
   go_wp2_with fail
   go_ret;exact ⟨a.data.toList, by simp; omega, by simp, hS1.more (by omega), hM1⟩
def someA : List Str := [[97, 110, 110], [98, 111, 98], [99, 105, 100]]
def someB : List Str := [[], [109, 101, 109, 111], [84, 104, 101, 32, 100, 101, 97, 108], [120, 45, 49, 46, 116, 120, 116]]
def ItemPostG (w : World) (b N : Nat) (e : Ending) (w' : World) : Prop := ∃ x : Itm, ItG x ∧ e = .returned (itA x) ∧ Strm w' b N ∧ Mod (· = b) w w'
def ItCut (w : World) (b N gr gx : Nat) (wx : World) : Prop :=
 ∃ x : Itm, ItG x ∧ Blk wx gx 79 (itQ x) ∧ Blk wx gr 79 itZc ∧ Strm wx b N ∧ Mod (· = b) w wx
set_option maxHeartbeats 8000000 in
theorem item_callsG (w : World) (b N : Nat) (id : Str) (hS : Strm w b N) (hN : N ≤ 800000000) (hid : id.length ≤ 100) : Calls Tryz.prog 45 #[.pointer (some ⟨b, 0, none⟩), .string ⟨id.toArray⟩] w (ItemPostG w b (N + 140)) := by
 have hbl := hS.lt;have HR0 := Lib.hid (Blk.new w 79 itZc);unfold itZc at HR0
 go_enter Tryz.func45, Tryz.ntmps45
 go_wp2_with fail
 refine (someb_calls _ b _ _ _ _ someA 3 rfl (by decide) ((hS.alloc _).alloc _) (by omega) (Blk.snd _ _ _ _) (by omega) (by decide) (by decide)).mono ?_;rintro e w1 ⟨s1, hs1, rfl, hS1, hM1⟩;have R1 := (HR0.out.alloc _).mod hM1 (by omega);have m1 : Mod (· = b) w w1 := (((Mod.refl _ _).alloc _).alloc _).trans hM1;obtain ⟨gr, hgr⟩ : ∃ gr, gr = w.heap.size := ⟨_, rfl⟩;rw [← hgr] at R1 ⊢;have hgr1 := Nat.le_of_eq hgr;have hgr2 := Nat.le_of_eq hgr.symm
 have hbr : b < gr := by omega
 clear hgr HR0 hM1 hS;have hl1 := hS1.lt
 go_wp2_with fail
 refine (pickv_calls _ b _ w1.heap.size _ _ #[.int .i64 1, .int .i64 1, .int .i64 1, .int .i64 2, .int .i64 3, .int .i64 3, .int .i64 4] (hS1.alloc _) (Blk.new _ _ _) (by omega) (by omega) rfl (by decide) (by decide) rfl).mono ?_;rintro e w2 ⟨kd, _, rfl, hS2, hM2⟩;have R2 := (R1.alloc _).mod hM2 (by omega);have m2 := (m1.alloc _).trans hM2;clear R1 m1 hS1 hM2 hl1;have hl2 := hS2.lt
 go_wp2_with fail
 refine (someb_calls _ b _ _ _ _ someB 8 rfl (by decide) (hS2.alloc _) (by omega) (Blk.new _ _ _) (by omega) (by decide) (by decide)).mono ?_;rintro e w3 ⟨s3, hs3, rfl, hS3, hM3⟩;have R3 := (R2.alloc _).mod hM3 (by omega);have m3 := (m2.alloc _).trans hM3;clear R2 m2 hS2 hM3 hl2;have hl3 := hS3.lt
 go_wp2_with fail
 refine (pickv_calls _ b _ w3.heap.size _ _ #[.int .i64 0, .int .i64 10, .int .i64 100, .int .i64 1439, .int .i64 1440, .int .i64 5000, .int .i64 20000] (hS3.alloc _) (Blk.new _ _ _) (by omega) (by omega) rfl (by decide) (by decide) rfl).mono ?_;rintro e w4 ⟨tm, _, rfl, hS4, hM4⟩;have R4 := (R3.alloc _).mod hM4 (by omega);have m4 := (m3.alloc _).trans hM4;clear R3 m3 hS3 hM4 hl3
 go_wp2_with fail
 refine (itemText_calls _ b _ hS4 (by omega)).mono ?_;rintro e w5 ⟨s5, hs5, rfl, hS5, hM5⟩;have R5 := R4.mod hM5 (by omega);have m5 := m4.trans hM5;clear R4 m4 hS4 hM5
 go_wp2_with fail
 refine (itemText_calls _ b _ hS5 (by omega)).mono ?_;rintro e w6 ⟨s6, hs6, rfl, hS6, hM6⟩;have R6 := R5.mod hM6 (by omega);have m6 := m5.trans hM6;clear R5 m5 hS5 hM6;have hl6 := hS6.lt
 go_wp2_with fail
 refine (someb_calls _ b _ _ _ _ [[], [111, 110, 101, 10], [111, 110, 101, 10, 116, 119, 111, 10], s5, s6] 300 rfl (le_cons (by decide) (le_cons (by decide) (le_cons (by decide) (le_cons hs5 (le_cons hs6 le_nil))))) (hS6.alloc _) (by omega) (Blk.new _ _ _) (by omega) (by simp) (by simp)).mono ?_;rintro e w7 ⟨s7, hs7, rfl, hS7, hM7⟩;have R7 := (R6.alloc _).mod hM7 (by omega);have m7 := (m6.alloc _).trans hM7;clear R6 m6 hS6 hM7 hl6 hs5 hs6;have HB := Lib.hid (Blk.new w7 79 (itQ ⟨id, s1, kd, s3, tm, [], s7⟩));have R8 := R7.alloc (.cells (itQ ⟨id, s1, kd, s3, tm, [], s7⟩) 79);have m8 := m7.alloc (.cells (itQ ⟨id, s1, kd, s3, tm, [], s7⟩) 79);have hS8 := hS7.alloc (.cells (itQ ⟨id, s1, kd, s3, tm, [], s7⟩) 79);have hrl := R7.lt;have hl7 := hS7.lt;unfold itQ at HB R8 m8 hS8;simp only at HB R8 m8 hS8;have HR8 := Lib.hid R8;have Hm8 := Lib.hid m8;have HS8 := Lib.hid hS8;clear R7 m7 hS7 R8 m8 hS8
 go_wp2_with fail
 refine (flip_calls _ b _ _ HS8.out (by omega) (by omega) (by omega)).mono ?_;rintro e w9 ⟨fl, rfl, hS9, hM9⟩;have B9 := HB.out.mod hM9 (by omega);have R9 := HR8.out.mod hM9 (by omega);have m9 := Hm8.out.trans hM9;generalize w7.heap.size = gx at *;clear HB HR8 Hm8 HS8 hM9
 go_upto_if 28 with (fail)
 go_cut [] (fun wx => ItCut w b (N + 140) gr gx wx)
 case first =>
  cases fl
  ·go_wp2_with fail
   go_meet;exact ⟨⟨id, s1, kd, s3, tm, [], s7⟩, ⟨by show id.length ≤ _; omega, by show s1.length ≤ _; omega, by show s3.length ≤ _; omega, by simp, by show s7.length ≤ _; omega⟩, B9, R9, hS9.more (by omega), m9⟩
  go_wp2_with fail
  refine (next_calls _ b _ _ hS9 (by omega) (by omega) (by omega)).mono ?_;rintro e w10 ⟨k, hk0, hk1, rfl, hS10, hM10⟩;have B10 := B9.mod hM10 (by omega);have R10 := R9.mod hM10 (by omega);have m10 := m9.trans hM10;have hl10 := hS10.lt;clear B9 R9 m9 hS9 hM10
  have HST : Hid (∀ (W : World) (j : Nat) (u : Value), b < gx → Strm W b (N + 140) → Mod (· = b) w W → Blk W gr 79 itZc → Strm (W.setCell ⟨gx, j, none⟩ u) b (N + 140) ∧ Mod (· = b) w (W.setCell ⟨gx, j, none⟩ u) ∧ Blk (W.setCell ⟨gx, j, none⟩ u) gr 79 itZc) :=
   Lib.hid (fun W j u h1 h2 h3 h4 => ⟨h2.setCell h1 _, h3.setCell (p := ⟨gx, j, none⟩) (.inr (by show _ ≤ gx; omega)) _, h4.far (p := ⟨gx, j, none⟩) (by show gr ≠ gx; omega) _⟩)
  by_cases k0 : k = 0
  ·subst k0
   go_wp2_with fail
   refine (someb_calls _ b _ _ _ _ [[], [65], id] 100 rfl (le_cons (by decide) (le_cons (by decide) (le_cons hid le_nil))) (hS10.alloc _) (by omega) (Blk.new _ _ _) (by omega) (by simp) (by simp)).mono ?_;rintro e w11 ⟨t1, ht1, rfl, hS11, hM11⟩;have B11 := (B10.alloc _).mod hM11 (by omega);have R11 := (R10.alloc _).mod hM11 (by omega);have m11 := (m10.alloc _).trans hM11;have hl11 := hS11.lt;clear B10 R10 m10 hS10 hM11
   go_wp2_with fail
   refine (someb_calls _ b _ _ _ _ [[], [65, 110, 110], [97, 110, 110]] 3 rfl (by decide) (hS11.alloc _) (by omega) (Blk.new _ _ _) (by omega) (by simp) (by simp)).mono ?_;rintro e w12 ⟨t2, ht2, rfl, hS12, hM12⟩;have B12 := (B11.alloc _).mod hM12 (by omega);have R12 := (R11.alloc _).mod hM12 (by omega);have m12 := (m11.alloc _).trans hM12;clear B11 R11 m11 hS11 hM12;have HB := Lib.hid B12;have c0 := B12.cell 0; have cf0 := B12.frozen 0; have c1 := B12.cell 1; have cf1 := B12.frozen 1; have c2 := B12.cell 2; have cf2 := B12.frozen 2; have c3 := B12.cell 3; have cf3 := B12.frozen 3; have c4 := B12.cell 4; have cf4 := B12.frozen 4; have c5 := B12.cell 5; have cf5 := B12.frozen 5; have c6 := B12.cell 6; have cf6 := B12.frozen 6; simp at c0 c1 c2 c3 c4 c5 c6;clear B12
   go_wp2_with fail
   go_meet;obtain ⟨a1, a2, a3⟩ := HST.out _ 0 (.string ⟨t1.toArray⟩) (by omega) (hS12.more (by omega)) m12 R12;obtain ⟨d1, d2, d3⟩ := HST.out _ 1 (.string ⟨t2.toArray⟩) (by omega) a1 a2 a3;exact ⟨⟨t1, t2, kd, s3, tm, [], s7⟩, ⟨by show t1.length ≤ _; omega, by show t2.length ≤ _; omega, by show s3.length ≤ _; omega, by simp, by show s7.length ≤ _; omega⟩, by have := (HB.out.set 0 (.string ⟨t1.toArray⟩)).set 1 (.string ⟨t2.toArray⟩); simpa [itQ] using this, d3, d1, d2⟩
  have k0' : (k == 0) = false := by simpa using k0
  by_cases k1 : k = 1
  ·subst k1
   go_wp2_with fail
   refine (odd_calls _ b _ _ _ hS10 (by omega) (by omega) (by omega) (by omega)).mono ?_;rintro e w11 ⟨z, _, _, rfl, hS11, hM11⟩;have B11 := B10.mod hM11 (by omega);have R11 := R10.mod hM11 (by omega);have m11 := m10.trans hM11;clear B10 R10 m10 hS10 hM11;have HB := Lib.hid B11;have c0 := B11.cell 0; have cf0 := B11.frozen 0; have c1 := B11.cell 1; have cf1 := B11.frozen 1; have c2 := B11.cell 2; have cf2 := B11.frozen 2; have c3 := B11.cell 3; have cf3 := B11.frozen 3; have c4 := B11.cell 4; have cf4 := B11.frozen 4; have c5 := B11.cell 5; have cf5 := B11.frozen 5; have c6 := B11.cell 6; have cf6 := B11.frozen 6; simp at c0 c1 c2 c3 c4 c5 c6;clear B11
   go_wp2_with fail
   go_meet;obtain ⟨a1, a2, a3⟩ := HST.out _ 2 (.int .i64 z) (by omega) (hS11.more (by omega)) m11 R11;exact ⟨⟨id, s1, z, s3, tm, [], s7⟩, ⟨by show id.length ≤ _; omega, by show s1.length ≤ _; omega, by show s3.length ≤ _; omega, by simp, by show s7.length ≤ _; omega⟩, by have := HB.out.set 2 (.int .i64 z); simpa [itQ] using this, a3, a1, a2⟩
  have k1' : (k == 1) = false := by simpa using k1
  by_cases k2 : k = 2
  ·subst k2
   go_wp2_with fail
   refine (pickv_calls _ b _ w10.heap.size _ _ #[.int .i64 120, .int .i64 121] (hS10.alloc _) (Blk.new _ _ _) (by omega) (by omega) rfl (by decide) (by decide) rfl).mono ?_;rintro e w11 ⟨z, hz, rfl, hS11, hM11⟩
   have hz2 : 2 ≤ z ∧ z ≤ 200 := by
    have : z = 120 ∨ z = 121 := by simpa [intsOf, Go.RowKit.intOf] using hz
    omega
   obtain ⟨z, rfl⟩ := Int.eq_ofNat_of_zero_le (by omega : 0 ≤ z);have B11 := (B10.alloc _).mod hM11 (by omega);have R11 := (R10.alloc _).mod hM11 (by omega);have m11 := (m10.alloc _).trans hM11;clear B10 R10 m10 hS10 hM11 hz
   go_wp2_with fail
   refine (repeatA_calls _ z (by omega) (by omega)).mono ?_;rintro e w12 ⟨t1, ht1, rfl, hM12⟩;have B12 := B11.mod hM12 _root_.id;have R12 := R11.mod hM12 _root_.id;have m12 := m11.transp hM12;have hS12 := hS11.pure hM12;have hl12 := hS12.lt
   have ht1' : t1.length ≤ 200 := by omega
   clear B11 R11 m11 hS11 hM12 ht1 hz2
   go_wp2_with fail
   refine (someb_calls _ b _ _ _ _ [[32, 97], [97, 32, 32, 98], [97, 10], [255], t1] 200 rfl (le_cons (by decide) (le_cons (by decide) (le_cons (by decide) (le_cons (by decide) (le_cons ht1' le_nil))))) (hS12.alloc _) (by omega) (Blk.new _ _ _) (by omega) (by simp) (by simp)).mono ?_;rintro e w13 ⟨t2, ht2, rfl, hS13, hM13⟩;have B13 := (B12.alloc _).mod hM13 (by omega);have R13 := (R12.alloc _).mod hM13 (by omega);have m13 := (m12.alloc _).trans hM13;clear B12 R12 m12 hS12 hM13;have HB := Lib.hid B13;have c0 := B13.cell 0; have cf0 := B13.frozen 0; have c1 := B13.cell 1; have cf1 := B13.frozen 1; have c2 := B13.cell 2; have cf2 := B13.frozen 2; have c3 := B13.cell 3; have cf3 := B13.frozen 3; have c4 := B13.cell 4; have cf4 := B13.frozen 4; have c5 := B13.cell 5; have cf5 := B13.frozen 5; have c6 := B13.cell 6; have cf6 := B13.frozen 6; simp at c0 c1 c2 c3 c4 c5 c6;clear B13
   go_wp2_with fail
   go_meet;obtain ⟨a1, a2, a3⟩ := HST.out _ 3 (.string ⟨t2.toArray⟩) (by omega) (hS13.more (by omega)) m13 R13;exact ⟨⟨id, s1, kd, t2, tm, [], s7⟩, ⟨by show id.length ≤ _; omega, by show s1.length ≤ _; omega, by show t2.length ≤ _; omega, by simp, by show s7.length ≤ _; omega⟩, by have := HB.out.set 3 (.string ⟨t2.toArray⟩); simpa [itQ] using this, a3, a1, a2⟩
  have k2' : (k == 2) = false := by simpa using k2
  by_cases k3 : k = 3
  ·subst k3
   go_wp2_with fail
   refine (odd_calls _ b _ _ _ hS10 (by omega) (by omega) (by omega) (by omega)).mono ?_;rintro e w11 ⟨z, _, _, rfl, hS11, hM11⟩;have B11 := B10.mod hM11 (by omega);have R11 := R10.mod hM11 (by omega);have m11 := m10.trans hM11;clear B10 R10 m10 hS10 hM11;have HB := Lib.hid B11;have c0 := B11.cell 0; have cf0 := B11.frozen 0; have c1 := B11.cell 1; have cf1 := B11.frozen 1; have c2 := B11.cell 2; have cf2 := B11.frozen 2; have c3 := B11.cell 3; have cf3 := B11.frozen 3; have c4 := B11.cell 4; have cf4 := B11.frozen 4; have c5 := B11.cell 5; have cf5 := B11.frozen 5; have c6 := B11.cell 6; have cf6 := B11.frozen 6; simp at c0 c1 c2 c3 c4 c5 c6;clear B11
   go_wp2_with fail
   go_meet;obtain ⟨a1, a2, a3⟩ := HST.out _ 4 (.int .i64 z) (by omega) (hS11.more (by omega)) m11 R11;exact ⟨⟨id, s1, kd, s3, z, [], s7⟩, ⟨by show id.length ≤ _; omega, by show s1.length ≤ _; omega, by show s3.length ≤ _; omega, by simp, by show s7.length ≤ _; omega⟩, by have := HB.out.set 4 (.int .i64 z); simpa [itQ] using this, a3, a1, a2⟩
  have k3' : (k == 3) = false := by simpa using k3
  by_cases k4 : k = 4
  ·subst k4
   go_wp2_with fail
   refine (someb_calls _ b _ _ _ _ [[65], id, [57]] 100 rfl (le_cons (by decide) (le_cons hid (le_cons (by decide) le_nil))) (hS10.alloc _) (by omega) (Blk.new _ _ _) (by omega) (by simp) (by simp)).mono ?_;rintro e w11 ⟨t1, ht1, rfl, hS11, hM11⟩;have B11 := (B10.alloc _).mod hM11 (by omega);have R11 := (R10.alloc _).mod hM11 (by omega);have m11 := (m10.alloc _).trans hM11;clear B10 R10 m10 hS10 hM11;have HB := Lib.hid B11;have c0 := B11.cell 0; have cf0 := B11.frozen 0; have c1 := B11.cell 1; have cf1 := B11.frozen 1; have c2 := B11.cell 2; have cf2 := B11.frozen 2; have c3 := B11.cell 3; have cf3 := B11.frozen 3; have c4 := B11.cell 4; have cf4 := B11.frozen 4; have c5 := B11.cell 5; have cf5 := B11.frozen 5; have c6 := B11.cell 6; have cf6 := B11.frozen 6; simp at c0 c1 c2 c3 c4 c5 c6;clear B11
   go_wp2_with fail
   go_meet;obtain ⟨a1, a2, a3⟩ := HST.out _ 5 (.string ⟨t1.toArray⟩) (by omega) (hS11.more (by omega)) m11 R11;exact ⟨⟨id, s1, kd, s3, tm, t1, s7⟩, ⟨by show id.length ≤ _; omega, by show s1.length ≤ _; omega, by show s3.length ≤ _; omega, by show t1.length ≤ _; omega, by show s7.length ≤ _; omega⟩, by have := HB.out.set 5 (.string ⟨t1.toArray⟩); simpa [itQ] using this, a3, a1, a2⟩
  have k4' : (k == 4) = false := by simpa using k4
  go_wp2_with fail
  refine (pickv_calls _ b _ w10.heap.size _ _ #[.int .i64 19999, .int .i64 20000] (hS10.alloc _) (Blk.new _ _ _) (by omega) (by omega) rfl (by decide) (by decide) rfl).mono ?_;rintro e w11 ⟨z, hz, rfl, hS11, hM11⟩
  have hz2 : 2 ≤ z ∧ z ≤ 20000 := by
   have : z = 19999 ∨ z = 20000 := by simpa [intsOf, Go.RowKit.intOf] using hz
   omega
  obtain ⟨z, rfl⟩ := Int.eq_ofNat_of_zero_le (by omega : 0 ≤ z);have B11 := (B10.alloc _).mod hM11 (by omega);have R11 := (R10.alloc _).mod hM11 (by omega);have m11 := (m10.alloc _).trans hM11;clear B10 R10 m10 hS10 hM11 hz
  go_wp2_with fail
  refine (repeatA_calls _ z (by omega) (by omega)).mono ?_;rintro e w12 ⟨t1, ht1, rfl, hM12⟩;have B12 := B11.mod hM12 _root_.id;have R12 := R11.mod hM12 _root_.id;have m12 := m11.transp hM12;have hS12 := hS11.pure hM12;have hl12 := hS12.lt
  have ht1' : (t1 ++ [10]).length ≤ 20001 := by simp; omega
  have hap := bytes_app t1 [10]
  have hsz : (⟨t1.toArray⟩ : ByteArray).size ≤ 20000 := by simp [ByteArray.size]; omega
  have HAP : Hid ((⟨t1.toArray⟩ : ByteArray) ++ ⟨#[10]⟩ = ⟨(t1 ++ [10]).toArray⟩) := Lib.hid hap;clear B11 R11 m11 hS11 hM12 ht1 hz2 hap;generalize t1 ++ [10] = t3 at *;generalize (⟨t1.toArray⟩ : ByteArray) = z1 at *
  go_wp2_with fail
  rw [HAP.out];refine (someb_calls _ b _ _ _ _ [[110, 111, 32, 101, 110, 100], [1, 10], [127, 10], [255, 10], t3] 20001 rfl (le_cons (by decide) (le_cons (by decide) (le_cons (by decide) (le_cons (by decide) (le_cons ht1' le_nil))))) (hS12.alloc _) (by omega) (Blk.new _ _ _) (by omega) (by simp) (by simp)).mono ?_;rintro e w13 ⟨t2, ht2, rfl, hS13, hM13⟩;have B13 := (B12.alloc _).mod hM13 (by omega);have R13 := (R12.alloc _).mod hM13 (by omega);have m13 := (m12.alloc _).trans hM13;clear B12 R12 m12 hS12 hM13;have HB := Lib.hid B13;have c0 := B13.cell 0; have cf0 := B13.frozen 0; have c1 := B13.cell 1; have cf1 := B13.frozen 1; have c2 := B13.cell 2; have cf2 := B13.frozen 2; have c3 := B13.cell 3; have cf3 := B13.frozen 3; have c4 := B13.cell 4; have cf4 := B13.frozen 4; have c5 := B13.cell 5; have cf5 := B13.frozen 5; have c6 := B13.cell 6; have cf6 := B13.frozen 6; simp at c0 c1 c2 c3 c4 c5 c6;clear B13
  go_wp2_with fail
  go_meet;obtain ⟨a1, a2, a3⟩ := HST.out _ 6 (.string ⟨t2.toArray⟩) (by omega) (hS13.more (by omega)) m13 R13;exact ⟨⟨id, s1, kd, s3, tm, [], t2⟩, ⟨by show id.length ≤ _; omega, by show s1.length ≤ _; omega, by show s3.length ≤ _; omega, by simp, by show t2.length ≤ _; omega⟩, by have := HB.out.set 6 (.string ⟨t2.toArray⟩); simpa [itQ] using this, a3, a1, a2⟩
 case rest =>
  clear B9 R9 m9 hS9;obtain ⟨⟨y0, y1, y2, y3, y4, y5, y6⟩, hy, B, R, hS, hm⟩ := hcut;unfold itQ at B;unfold itZc at R;simp only at B;have HR := Lib.hid R;have c0 := B.cell 0; have c1 := B.cell 1; have c2 := B.cell 2; have c3 := B.cell 3; have c4 := B.cell 4; have c5 := B.cell 5; have c6 := B.cell 6; simp at c0 c1 c2 c3 c4 c5 c6;have d0 := R.cell 0; have df0 := R.frozen 0; have d1 := R.cell 1; have df1 := R.frozen 1; have d2 := R.cell 2; have df2 := R.frozen 2; have d3 := R.cell 3; have df3 := R.frozen 3; have d4 := R.cell 4; have df4 := R.frozen 4; have d5 := R.cell 5; have df5 := R.frozen 5; have d6 := R.cell 6; have df6 := R.frozen 6; simp at d0 d1 d2 d3 d4 d5 d6;clear B R
  go_wp2_with fail
  have q := HR.out.set7 (x0 := .string ⟨y0.toArray⟩) (x1 := .string ⟨y1.toArray⟩) (x2 := .int .i64 y2) (x3 := .string ⟨y3.toArray⟩) (x4 := .int .i64 y4) (x5 := .string ⟨y5.toArray⟩) (x6 := .string ⟨y6.toArray⟩);have hm7 := Mod.set7 wc gr (.string ⟨y0.toArray⟩) (.string ⟨y1.toArray⟩) (.int .i64 y2) (.string ⟨y3.toArray⟩) (.int .i64 y4) (.string ⟨y5.toArray⟩) (.string ⟨y6.toArray⟩);have r0 := q.cell 0; have r1 := q.cell 1; have r2 := q.cell 2; have r3 := q.cell 3; have r4 := q.cell 4; have r5 := q.cell 5; have r6 := q.cell 6; simp at r0 r1 r2 r3 r4 r5 r6;refine bodyPost_ret (v := itA ⟨y0, y1, y2, y3, y4, y5, y6⟩) (by simp [results, Tryz.results45, go_sem, itA, r0, r1, r2, r3, r4, r5, r6]) rfl ?_;exact ⟨_, hy, rfl, hS.mod hm7 (fun i hi => by omega), hm.trans' hm7 (fun i hi hlt => by omega)⟩
end Go.Proofs.YtgfgggeeoeppjaaGreatDoor
/- The generators of items: RightItems. -/
namespace Go.Proofs.YtgfgggeeoeppjaaGreatDoor
open Go.RowKit
theorem own_form7 {w : World} {base n size : Nat} {e : TypeId} {v : Value} {xs : List Value} (h : w.ownsRow base e size v n xs) (hn : 0 < n) : ∃ g cap, v = .slice (some ⟨g, 0, none⟩) n cap ∧ base ≤ g ∧ g < w.heap.size ∧ n ≤ cap ∧ cap ≤ 9223372036854775807 := by
 rcases h.2 with ⟨rfl, h0⟩ | ⟨g, cap, cur, rfl, hg, hh, hc, hcm, _⟩
 ·omega
 ·exact ⟨g, cap, rfl, hg, lt_of_heap hh, hc, by simpa [maxLen] using hcm⟩
theorem info_item7 : (Tryz.prog.info? 79).map (fun i => (i.zero, i.size, i.bytes)) = some (some itZ, 7, 96) := by kernel_rfl
def OwnI (w : World) (base g n cap : Nat) (xs : List Itm) : Prop := w.ownsRow base 79 7 (.slice (some ⟨g, 0, none⟩) n cap) n (itV xs)
theorem OwnI.len {w : World} {base g n cap : Nat} {xs : List Itm} (h : OwnI w base g n cap xs) : xs.length = n := by
 have := h.1;rw [itV_len] at this
 omega
theorem OwnI.its {w : World} {base g n cap : Nat} {xs : List Itm} (h : OwnI w base g n cap xs) : Its w (.slice (some ⟨g, 0, none⟩) n cap) xs := Sl.of_own h
theorem OwnI.mod {w w' : World} {base g n cap : Nat} {xs : List Itm} {S : Nat → Prop} (h : OwnI w base g n cap xs) (hm : Mod S w w') (hs : ¬ S g) : OwnI w' base g n cap xs := own_mod h hm (fun k hk => by injection hk with hk; rw [← hk]; exact hs)
theorem OwnI.ge {w : World} {base g n cap : Nat} {xs : List Itm} (h : OwnI w base g n cap xs) : base ≤ g ∧ g < w.heap.size := World.ownsRow.lt h g rfl
theorem OwnI.cells {w : World} {base g n cap k : Nat} {xs : List Itm} (h : OwnI w base g n cap xs) (hk : k < xs.length) :
  w.cell? ⟨g, k * 7, none⟩ = some (.string ⟨xs[k].id.toArray⟩) ∧ w.cell? ⟨g, k * 7 + 1, none⟩ = some (.string ⟨xs[k].cust.toArray⟩) ∧ w.cell? ⟨g, k * 7 + 2, none⟩ = some (.int .i64 xs[k].kind) ∧
  w.cell? ⟨g, k * 7 + 3, none⟩ = some (.string ⟨xs[k].name.toArray⟩) ∧ w.cell? ⟨g, k * 7 + 4, none⟩ = some (.int .i64 xs[k].tm) ∧ w.cell? ⟨g, k * 7 + 5, none⟩ = some (.string ⟨xs[k].par.toArray⟩) ∧ w.cell? ⟨g, k * 7 + 6, none⟩ = some (.string ⟨xs[k].text.toArray⟩) := by
 have hn := h.len;obtain ⟨h0, h1, h2, h3, h4, h5, h6⟩ := itV_get xs k hk;exact ⟨(World.ownsRow.cellAt h _ (by omega)).trans h0, (World.ownsRow.cellAt h _ (by omega)).trans h1, (World.ownsRow.cellAt h _ (by omega)).trans h2, (World.ownsRow.cellAt h _ (by omega)).trans h3, (World.ownsRow.cellAt h _ (by omega)).trans h4, (World.ownsRow.cellAt h _ (by omega)).trans h5, (World.ownsRow.cellAt h _ (by omega)).trans h6⟩
theorem OwnI.frozen {w : World} {base g n cap : Nat} {xs : List Itm} (h : OwnI w base g n cap xs) (j : Nat) : w.frozen? ⟨g, j, none⟩ = false := World.ownsRow.frozenAt h j
theorem itV_set : ∀ (xs : List Itm) (k : Nat) (y : Itm) (d : Nat) (u : Value), k < xs.length → d < 7 → (itC (xs.getD k y)).set d u = itC y → (itV xs).set (k * 7 + d) u = itV (xs.set k y)
 | [], k, y, d, u, hk, _, _ => absurd hk (by simp)
 | x :: xs, 0, y, d, u, _, hd, h => by
  have hl : (itC x).length = 7 := rfl;simp only [List.getD_cons_zero] at h;simp only [itV, List.flatMap_cons, Nat.zero_mul, Nat.zero_add, List.set_cons_zero];rw [List.set_append, if_pos (by rw [hl]; exact hd), h]
 | x :: xs, k + 1, y, d, u, hk, hd, h => by
  have hl : (itC x).length = 7 := rfl;have := itV_set xs k y d u (by simpa using hk) hd (by simpa using h);simp only [itV, List.flatMap_cons, List.set_cons_succ] at this ⊢;rw [List.set_append, if_neg (by rw [hl]; omega), hl, show (k + 1) * 7 + d - 7 = k * 7 + d by omega, this]
theorem OwnI.setPar {w : World} {base g n cap k : Nat} {xs : List Itm} (h : OwnI w base g n cap xs) (hk : k < xs.length) (s : Str) : OwnI (w.setCell ⟨g, k * 7 + 5, none⟩ (.string ⟨s.toArray⟩)) base g n cap (xs.set k { xs[k] with par := s }) := by
 have h1 := (World.ownsRow.stored h (k * 7 + 5) (.string ⟨s.toArray⟩)).1;rw [itV_set xs k { xs[k] with par := s } 5 _ hk (by omega) (by simp [List.getD, hk, itC])] at h1;exact h1
theorem OwnI.setKind {w : World} {base g n cap k : Nat} {xs : List Itm} (h : OwnI w base g n cap xs) (hk : k < xs.length) (z : Int) : OwnI (w.setCell ⟨g, k * 7 + 2, none⟩ (.int .i64 z)) base g n cap (xs.set k { xs[k] with kind := z }) := by
 have h1 := (World.ownsRow.stored h (k * 7 + 2) (.int .i64 z)).1;rw [itV_set xs k { xs[k] with kind := z } 2 _ hk (by omega) (by simp [List.getD, hk, itC])] at h1;exact h1
theorem set_all {xs : List Itm} {k : Nat} {y : Itm} (h : ∀ x ∈ xs, ItG x) (hy : ItG y) : ∀ x ∈ xs.set k y, ItG x := fun x hx => by
 rcases List.mem_or_eq_of_mem_set hx with hx | rfl
 ·exact h x hx
 ·exact hy
theorem ItG.par {x : Itm} (h : ItG x) {s : Str} (hs : s.length ≤ 30000) : ItG { x with par := s } := ⟨h.1, h.2.1, h.2.2.1, hs, h.2.2.2.2⟩
theorem ItG.kind {x : Itm} (h : ItG x) (z : Int) : ItG { x with kind := z } := ⟨h.1, h.2.1, h.2.2.1, h.2.2.2.1, h.2.2.2.2⟩
theorem ItB.par {x : Itm} (h : ItB x) {s : Str} (hs : s.length ≤ 30000) : ItB { x with par := s } := ⟨h.1, h.2.1, h.2.2.1, hs, h.2.2.2.2⟩
theorem ItB.kind {x : Itm} (h : ItB x) (z : Int) : ItB { x with kind := z } := ⟨h.1, h.2.1, h.2.2.1, h.2.2.2.1, h.2.2.2.2⟩
theorem le_nilI : ∀ x ∈ ([] : List Itm), ItG x := fun x hx => absurd hx (by simp)
def ItemsPostG (w : World) (b N m : Nat) (e : Ending) (w' : World) : Prop :=
 ∃ (v : Value) (xs : List Itm), e = .returned v ∧ xs.length ≤ m ∧ (∀ x ∈ xs, ItG x) ∧ w'.ownsRow w.heap.size 79 7 v xs.length (itV xs) ∧ Strm w' b N ∧ Mod (· = b) w w'
def Ri1 (w : World) (b N m gk : Nat) (ov i : Value) (wr : World) : Prop :=
 ∃ (j : Nat) (xs : List Itm) (A : Option Addr) (cap : Nat), m - j = gk ∧ j ≤ m ∧ ov = .slice A xs.length cap ∧ i = .int .i64 (j : Int) ∧ xs.length ≤ j ∧ (∀ x ∈ xs, ItG x) ∧ wr.ownsRow w.heap.size 79 7 (.slice A xs.length cap) xs.length (itV xs) ∧ Strm wr b (N + 140 * j) ∧ Mod (· = b) w wr ∧ w.heap.size ≤ wr.heap.size
def Ri2 (w : World) (b N base g n cap gk : Nat) (i : Value) (wr : World) : Prop :=
 ∃ (j : Nat) (xs : List Itm), n - j = gk ∧ j ≤ n ∧ i = .int .i64 (j : Int) ∧ (∀ x ∈ xs, ItG x) ∧ OwnI wr base g n cap xs ∧ Strm wr b (N + 2 * j) ∧ Mod (· = b) w wr
set_option maxHeartbeats 8000000 in
theorem rightItems_callsG (w : World) (b N m : Nat) (hS : Strm w b N) (hN : N ≤ 700000000) (hm : m ≤ 20) (hE : ∀ W, Mod (· = b) w W → Env W) : Calls Tryz.prog 38 #[.pointer (some ⟨b, 0, none⟩), .int .i64 (m : Int)] w (ItemsPostG w b (N + 142 * m) m) := by
 obtain ⟨i0, hi0, hz0, hz1, hz2⟩ := info_parts info_item7;have HE := Lib.hid hE;have hbl := hS.lt;clear hE;have m0 : Mod (· = b) w w := Mod.refl _ _
 go_enter Tryz.func38, Tryz.ntmps38
 go_wp2_with fail
 go_loopg [5, 12] m (fun gk ov i wr => Ri1 w b N m gk ov i wr)
 case atStart => exact ⟨0, [], none, 0, rfl, by omega, rfl, rfl, by simp, le_nilI, ⟨rfl, .inl ⟨rfl, rfl⟩⟩, hS.more (by omega), m0, Nat.le_refl _⟩
 case round =>
  clear hS m0;obtain ⟨j, xs, A, cap, rfl, hj, rfl, rfl, hxj, hxz, hown, hS, hmm, hsz⟩ := hrel
  by_cases hlt : j < m
  ·have HXZ := Lib.hid hxz;clear hxz
   go_wp2_with fail
   refine (itemId_calls _ j (by omega)).mono ?_;rintro e w1 ⟨rfl, hm1⟩;have hS1 := hS.pure hm1;have m1 := hmm.transp hm1;have own1 := own_pure hown hm1;have hsz1 := hm1.size;clear hS hmm hown hm1
   go_wp2_with fail
   refine (item_callsG _ b _ (itS j) hS1 (by omega) (by simp [itS])).mono ?_;rintro e w2 ⟨x, hx, rfl, hS2, hM2⟩;have hb2 := own_block own1;have own2 := own_mod own1 hM2 (fun k hk => by have := hb2 k hk; omega);have m2 := m1.trans hM2;have hsz2 := hM2.size;clear hS1 m1 own1 hM2 hb2;have HB0 := Lib.hid (Blk.new w2 79 (itQ x));have Hm0 := Lib.hid (pure_alloc w2 (.cells (itQ x) 79));obtain ⟨bo, hbo⟩ : ∃ bo, (x.id == itS j) = bo := ⟨_, rfl⟩;have HBO := Lib.hid hbo;obtain ⟨e1, he1⟩ : ∃ e1, itemE x = e1 := ⟨_, rfl⟩;have HIF := Lib.hid (fun W (h : Mod (· = b) w W) => itemFault_calls W x hx.b (HE.out W h));rw [he1] at HIF;have HX := Lib.hid hx;clear hbo he1 hx;have HID := Lib.hid (fun W => itemId_calls W j (by omega));generalize itS j = ij at *;unfold itA at HIF ⊢;unfold itQ at HB0 Hm0
   go_upto_region 6 with (fail)
   generalize (w2.alloc (.cells #[.string ⟨x.id.toArray⟩, .string ⟨x.cust.toArray⟩, .int .i64 x.kind, .string ⟨x.name.toArray⟩, .int .i64 x.tm, .string ⟨x.par.toArray⟩, .string ⟨x.text.toArray⟩] 79)) = WS at *;generalize hgs : w2.heap.size = gs at *;have hgs1 := Nat.le_of_eq hgs;have hgs2 := Nat.le_of_eq hgs.symm;clear hgs;obtain ⟨bad, hbad⟩ : ∃ bad, bad = (!bo || (!x.par.isEmpty || (e1 != 0))) := ⟨_, rfl⟩;have HBAD := Lib.hid hbad;clear hbad
   go_cut [33] (fun p wx => p = .bool bad ∧ Blk wx gs 79 #[.string ⟨x.id.toArray⟩, .string ⟨x.cust.toArray⟩, .int .i64 x.kind, .string ⟨x.name.toArray⟩, .int .i64 x.tm, .string ⟨x.par.toArray⟩, .string ⟨x.text.toArray⟩] ∧ Pure w2 wx)
   case first =>
    cases bo
    ·obtain rfl : bad = true := by rw [HBAD.out]; rfl
     have HGs := Lib.hid (show ∀ (D : Nat → Bool) (zzi : Nat) (zq zq' : World), (fun _ zq => (fun Z => Blk Z gs 79 #[.string ⟨x.id.toArray⟩, .string ⟨x.cust.toArray⟩, .int .i64 x.kind, .string ⟨x.name.toArray⟩, .int .i64 x.tm, .string ⟨x.par.toArray⟩, .string ⟨x.text.toArray⟩]) zq) D zq → Mod (fun _ => False) zq zq' → (fun _ zq => (fun Z => Blk Z gs 79 #[.string ⟨x.id.toArray⟩, .string ⟨x.cust.toArray⟩, .int .i64 x.kind, .string ⟨x.name.toArray⟩, .int .i64 x.tm, .string ⟨x.par.toArray⟩, .string ⟨x.text.toArray⟩]) zq) (upd D zzi true) zq' from by intro D zzi zq zq' h hm; (exact h.modp hm))
     refine wp_region_inv (by kernel_rfl) (by kernel_rfl) (InvF (R := Mod (fun _ => False)) [.is (.pointer (some ⟨gs, 0, none⟩)),
       .is (.string ⟨x.id.toArray⟩),
       .is (.int .i64 (j : Int)),
       .is (.string ⟨ij.toArray⟩),
       .is (.bool true),
       .is (.bool true),
       .is (undef),
       .is (undef),
       .is (undef),
       .is (.bool true),
       .is (.bool true),
       .is (undef),
       .is (undef),
       .is (undef),
       .is (.bool true)]
       (PB w2 (fun _ => False) WS.heap.size (fun _ zq => (fun Z => Blk Z gs 79 #[.string ⟨x.id.toArray⟩, .string ⟨x.cust.toArray⟩, .int .i64 x.kind, .string ⟨x.name.toArray⟩, .int .i64 x.tm, .string ⟨x.par.toArray⟩, .string ⟨x.text.toArray⟩]) zq))) (InvF.start (PB.start Hm0.out (Nat.le_refl _) (HB0.out.drew))) ?_ ?_
     ·refine .cons ?_ (.cons ?_ (.cons ?_ (.cons ?_ (.cons ?_ (.cons ?_ (.cons ?_ (.cons ?_ (.cons ?_ (.cons ?_ (.cons ?_ (.cons ?_ (.cons ?_ (.cons ?_ (.cons ?_ .nil))))))))))))))
      ·intro D V zw1 a hR hI K hK;obtain ⟨hM1, hB1, hG1⟩ := hI.1;have ze7 := hR.frame.other (t := 7) (by kernel_rfl) rfl;rw [if_pos (by rfl)];go_simp;exact hK (.pointer (some ⟨gs, 0, none⟩)) _ (hI.next hR (by kernel_rfl) (Mod.refl _ _) (PB.quiet hI.1 (Mod.refl _ _) (HGs.out D 0 zw1 zw1 (hI.1).g (Mod.refl _ _))) (upd_same V 0 _))
      ·intro D V zw1 a hR hI K hK;obtain ⟨hM1, hB1, hG1⟩ := hI.1;have zd0 := hR.pred 0 (by kernel_rfl);have zf0 : V 0 = .pointer (some ⟨gs, 0, none⟩) := hI.2 0 zd0 rfl;have ze19 := hR.frame.done (t := 19) (j := 0) (by kernel_rfl) hR.ok zd0;have zx0 := hG1.cell 0; have zx1 := hG1.cell 1; have zx2 := hG1.cell 2; have zx3 := hG1.cell 3; have zx4 := hG1.cell 4; have zx5 := hG1.cell 5; have zx6 := hG1.cell 6;simp at zx0 zx1 zx2 zx3 zx4 zx5 zx6;rw [if_pos (by rfl)];go_simp;exact hK (.string ⟨x.id.toArray⟩) _ (hI.next hR (by kernel_rfl) (Mod.refl _ _) (PB.quiet hI.1 (Mod.refl _ _) (HGs.out D 1 zw1 zw1 (hI.1).g (Mod.refl _ _))) (upd_same V 1 _))
      ·intro D V zw1 a hR hI K hK;obtain ⟨hM1, hB1, hG1⟩ := hI.1;have ze6 := hR.frame.other (t := 6) (by kernel_rfl) rfl;rw [if_pos (by rfl)];go_simp;exact hK (.int .i64 (j : Int)) _ (hI.next hR (by kernel_rfl) (Mod.refl _ _) (PB.quiet hI.1 (Mod.refl _ _) (HGs.out D 2 zw1 zw1 (hI.1).g (Mod.refl _ _))) (upd_same V 2 _))
      ·intro D V zw1 a hR hI K hK;obtain ⟨hM1, hB1, hG1⟩ := hI.1;have zd2 := hR.pred 2 (by kernel_rfl);have zf2 : V 2 = .int .i64 (j : Int) := hI.2 2 zd2 rfl;have ze21 := hR.frame.done (t := 21) (j := 2) (by kernel_rfl) hR.ok zd2;rw [if_pos (by rfl)];go_simp;refine (HID.out _).mono ?_;rintro e zw2 ⟨rfl, hm2⟩;exact hK (.string ⟨ij.toArray⟩) _ (hI.next hR (by kernel_rfl) hm2 (PB.quiet hI.1 hm2 (HGs.out D 3 _ _ (hI.1).g hm2)) (upd_same V 3 _))
      ·intro D V zw1 a hR hI K hK;obtain ⟨hM1, hB1, hG1⟩ := hI.1;have zd1 := hR.pred 1 (by kernel_rfl);have zf1 : V 1 = .string ⟨x.id.toArray⟩ := hI.2 1 zd1 rfl;have zd3 := hR.pred 3 (by kernel_rfl);have zf3 : V 3 = .string ⟨ij.toArray⟩ := hI.2 3 zd3 rfl;have ze20 := hR.frame.done (t := 20) (j := 1) (by kernel_rfl) hR.ok zd1;have ze22 := hR.frame.done (t := 22) (j := 3) (by kernel_rfl) hR.ok zd3;have hbo := HBO.out;rw [if_pos (by rfl)];go_simp;exact hK (.bool true) _ (hI.next hR (by kernel_rfl) (Mod.refl _ _) (PB.quiet hI.1 (Mod.refl _ _) (HGs.out D 4 zw1 zw1 (hI.1).g (Mod.refl _ _))) (upd_same V 4 _))
      ·intro D V zw1 a hR hI K hK;obtain ⟨hM1, hB1, hG1⟩ := hI.1;have zd4 := hR.pred 4 (by kernel_rfl);have zf4 : V 4 = .bool true := hI.2 4 zd4 rfl;have ze23 := hR.frame.done (t := 23) (j := 4) (by kernel_rfl) hR.ok zd4;rw [if_pos (by rfl)];go_simp;exact hK (.bool true) _ (hI.next hR (by kernel_rfl) (Mod.refl _ _) (PB.quiet hI.1 (Mod.refl _ _) (HGs.out D 5 zw1 zw1 (hI.1).g (Mod.refl _ _))) (upd_same V 5 _))
      ·intro D V zw1 a hR hI K hK;obtain ⟨hM1, hB1, hG1⟩ := hI.1;have zd5 := hR.pred 5 (by kernel_rfl);have zf5 : V 5 = .bool true := hI.2 5 zd5 rfl;have ze24 := hR.frame.done (t := 24) (j := 5) (by kernel_rfl) hR.ok zd5;rw [if_neg (by simp [Region.wanted, yielded, ze24, zf5])];exact hK undef _ (hI.next hR (by kernel_rfl) (Mod.refl _ _) (PB.quiet hI.1 (Mod.refl _ _) (HGs.out D 6 zw1 zw1 (hI.1).g (Mod.refl _ _))) (upd_same V 6 _))
      ·intro D V zw1 a hR hI K hK;obtain ⟨hM1, hB1, hG1⟩ := hI.1;have zd5 := hR.pred 5 (by kernel_rfl);have zf5 : V 5 = .bool true := hI.2 5 zd5 rfl;have ze24 := hR.frame.done (t := 24) (j := 5) (by kernel_rfl) hR.ok zd5;rw [if_neg (by simp [Region.wanted, yielded, ze24, zf5])];exact hK undef _ (hI.next hR (by kernel_rfl) (Mod.refl _ _) (PB.quiet hI.1 (Mod.refl _ _) (HGs.out D 7 zw1 zw1 (hI.1).g (Mod.refl _ _))) (upd_same V 7 _))
      ·intro D V zw1 a hR hI K hK;obtain ⟨hM1, hB1, hG1⟩ := hI.1;have zd5 := hR.pred 5 (by kernel_rfl);have zf5 : V 5 = .bool true := hI.2 5 zd5 rfl;have ze24 := hR.frame.done (t := 24) (j := 5) (by kernel_rfl) hR.ok zd5;rw [if_neg (by simp [Region.wanted, yielded, ze24, zf5])];exact hK undef _ (hI.next hR (by kernel_rfl) (Mod.refl _ _) (PB.quiet hI.1 (Mod.refl _ _) (HGs.out D 8 zw1 zw1 (hI.1).g (Mod.refl _ _))) (upd_same V 8 _))
      ·intro D V zw1 a hR hI K hK;obtain ⟨hM1, hB1, hG1⟩ := hI.1;have zd5 := hR.pred 5 (by kernel_rfl);have zf5 : V 5 = .bool true := hI.2 5 zd5 rfl;have zd8 := hR.pred 8 (by kernel_rfl);have zf8 : V 8 = undef := hI.2 8 zd8 rfl;have ze24 := hR.frame.done (t := 24) (j := 5) (by kernel_rfl) hR.ok zd5;have ze27 := hR.frame.done (t := 27) (j := 8) (by kernel_rfl) hR.ok zd8;rw [if_pos (by rfl)];go_simp;exact hK (.bool true) _ (hI.next hR (by kernel_rfl) (Mod.refl _ _) (PB.quiet hI.1 (Mod.refl _ _) (HGs.out D 9 zw1 zw1 (hI.1).g (Mod.refl _ _))) (upd_same V 9 _))
      ·intro D V zw1 a hR hI K hK;obtain ⟨hM1, hB1, hG1⟩ := hI.1;have zd9 := hR.pred 9 (by kernel_rfl);have zf9 : V 9 = .bool true := hI.2 9 zd9 rfl;have ze28 := hR.frame.done (t := 28) (j := 9) (by kernel_rfl) hR.ok zd9;rw [if_pos (by rfl)];go_simp;exact hK (.bool true) _ (hI.next hR (by kernel_rfl) (Mod.refl _ _) (PB.quiet hI.1 (Mod.refl _ _) (HGs.out D 10 zw1 zw1 (hI.1).g (Mod.refl _ _))) (upd_same V 10 _))
      ·intro D V zw1 a hR hI K hK;obtain ⟨hM1, hB1, hG1⟩ := hI.1;have zd10 := hR.pred 10 (by kernel_rfl);have zf10 : V 10 = .bool true := hI.2 10 zd10 rfl;have ze29 := hR.frame.done (t := 29) (j := 10) (by kernel_rfl) hR.ok zd10;rw [if_neg (by simp [Region.wanted, yielded, ze29, zf10])];exact hK undef _ (hI.next hR (by kernel_rfl) (Mod.refl _ _) (PB.quiet hI.1 (Mod.refl _ _) (HGs.out D 11 zw1 zw1 (hI.1).g (Mod.refl _ _))) (upd_same V 11 _))
      ·intro D V zw1 a hR hI K hK;obtain ⟨hM1, hB1, hG1⟩ := hI.1;have zd10 := hR.pred 10 (by kernel_rfl);have zf10 : V 10 = .bool true := hI.2 10 zd10 rfl;have ze29 := hR.frame.done (t := 29) (j := 10) (by kernel_rfl) hR.ok zd10;rw [if_neg (by simp [Region.wanted, yielded, ze29, zf10])];exact hK undef _ (hI.next hR (by kernel_rfl) (Mod.refl _ _) (PB.quiet hI.1 (Mod.refl _ _) (HGs.out D 12 zw1 zw1 (hI.1).g (Mod.refl _ _))) (upd_same V 12 _))
      ·intro D V zw1 a hR hI K hK;obtain ⟨hM1, hB1, hG1⟩ := hI.1;have zd10 := hR.pred 10 (by kernel_rfl);have zf10 : V 10 = .bool true := hI.2 10 zd10 rfl;have ze29 := hR.frame.done (t := 29) (j := 10) (by kernel_rfl) hR.ok zd10;rw [if_neg (by simp [Region.wanted, yielded, ze29, zf10])];exact hK undef _ (hI.next hR (by kernel_rfl) (Mod.refl _ _) (PB.quiet hI.1 (Mod.refl _ _) (HGs.out D 13 zw1 zw1 (hI.1).g (Mod.refl _ _))) (upd_same V 13 _))
      ·intro D V zw1 a hR hI K hK;obtain ⟨hM1, hB1, hG1⟩ := hI.1;have zd10 := hR.pred 10 (by kernel_rfl);have zf10 : V 10 = .bool true := hI.2 10 zd10 rfl;have zd13 := hR.pred 13 (by kernel_rfl);have zf13 : V 13 = undef := hI.2 13 zd13 rfl;have ze29 := hR.frame.done (t := 29) (j := 10) (by kernel_rfl) hR.ok zd10;have ze32 := hR.frame.done (t := 32) (j := 13) (by kernel_rfl) hR.ok zd13;rw [if_pos (by rfl)];go_simp;exact hK (.bool true) _ (hI.next hR (by kernel_rfl) (Mod.refl _ _) (PB.quiet hI.1 (Mod.refl _ _) (HGs.out D 14 zw1 zw1 (hI.1).g (Mod.refl _ _))) (upd_same V 14 _))
     ·intro D V w3 hD hI;obtain ⟨hM1, hB1, hG1⟩ := hI.1;have hMx := hM1;clear hM1;have hBx := hB1;clear hB1;have hGx := hG1;clear hG1;have zf0 : V 0 = .pointer (some ⟨gs, 0, none⟩) := hI.2 0 (hD 0 (by decide)) rfl;have zf1 : V 1 = .string ⟨x.id.toArray⟩ := hI.2 1 (hD 1 (by decide)) rfl;have zf2 : V 2 = .int .i64 (j : Int) := hI.2 2 (hD 2 (by decide)) rfl;have zf3 : V 3 = .string ⟨ij.toArray⟩ := hI.2 3 (hD 3 (by decide)) rfl;have zf4 : V 4 = .bool true := hI.2 4 (hD 4 (by decide)) rfl;have zf5 : V 5 = .bool true := hI.2 5 (hD 5 (by decide)) rfl;have zf6 : V 6 = undef := hI.2 6 (hD 6 (by decide)) rfl;have zf7 : V 7 = undef := hI.2 7 (hD 7 (by decide)) rfl;have zf8 : V 8 = undef := hI.2 8 (hD 8 (by decide)) rfl;have zf9 : V 9 = .bool true := hI.2 9 (hD 9 (by decide)) rfl;have zf10 : V 10 = .bool true := hI.2 10 (hD 10 (by decide)) rfl;have zf11 : V 11 = undef := hI.2 11 (hD 11 (by decide)) rfl;have zf12 : V 12 = undef := hI.2 12 (hD 12 (by decide)) rfl;have zf13 : V 13 = undef := hI.2 13 (hD 13 (by decide)) rfl;have zf14 : V 14 = .bool true := hI.2 14 (hD 14 (by decide)) rfl;clear hI hD HGs;simp only [frAll, Act.put, List.setIfInBounds_toArray, List.set_cons_zero, List.set_cons_succ, Nat.zero_add, Nat.reduceAdd, zf0, zf1, zf2, zf3, zf4, zf5, zf6, zf7, zf8, zf9, zf10, zf11, zf12, zf13, zf14];clear zf0 zf1 zf2 zf3 zf4 zf5 zf6 zf7 zf8 zf9 zf10 zf11 zf12 zf13 zf14;clear V D
      go_wp2_with fail
      go_meet;exact ⟨rfl, hGx, hMx⟩
    ·cases hpe : x.par.isEmpty
     ·obtain rfl : bad = true := by rw [HBAD.out, hpe]; rfl
      have HGs := Lib.hid (show ∀ (D : Nat → Bool) (zzi : Nat) (zq zq' : World), (fun _ zq => (fun Z => Blk Z gs 79 #[.string ⟨x.id.toArray⟩, .string ⟨x.cust.toArray⟩, .int .i64 x.kind, .string ⟨x.name.toArray⟩, .int .i64 x.tm, .string ⟨x.par.toArray⟩, .string ⟨x.text.toArray⟩]) zq) D zq → Mod (fun _ => False) zq zq' → (fun _ zq => (fun Z => Blk Z gs 79 #[.string ⟨x.id.toArray⟩, .string ⟨x.cust.toArray⟩, .int .i64 x.kind, .string ⟨x.name.toArray⟩, .int .i64 x.tm, .string ⟨x.par.toArray⟩, .string ⟨x.text.toArray⟩]) zq) (upd D zzi true) zq' from by intro D zzi zq zq' h hm; (exact h.modp hm))
      refine wp_region_inv (by kernel_rfl) (by kernel_rfl) (InvF (R := Mod (fun _ => False)) [.is (.pointer (some ⟨gs, 0, none⟩)),
        .is (.string ⟨x.id.toArray⟩),
        .is (.int .i64 (j : Int)),
        .is (.string ⟨ij.toArray⟩),
        .is (.bool false),
        .is (.bool false),
        .is (.pointer (some ⟨gs, 5, none⟩)),
        .is (.string ⟨x.par.toArray⟩),
        .is (.bool true),
        .is (.bool true),
        .is (.bool true),
        .is (undef),
        .is (undef),
        .is (undef),
        .is (.bool true)]
        (PB w2 (fun _ => False) WS.heap.size (fun _ zq => (fun Z => Blk Z gs 79 #[.string ⟨x.id.toArray⟩, .string ⟨x.cust.toArray⟩, .int .i64 x.kind, .string ⟨x.name.toArray⟩, .int .i64 x.tm, .string ⟨x.par.toArray⟩, .string ⟨x.text.toArray⟩]) zq))) (InvF.start (PB.start Hm0.out (Nat.le_refl _) (HB0.out.drew))) ?_ ?_
      ·refine .cons ?_ (.cons ?_ (.cons ?_ (.cons ?_ (.cons ?_ (.cons ?_ (.cons ?_ (.cons ?_ (.cons ?_ (.cons ?_ (.cons ?_ (.cons ?_ (.cons ?_ (.cons ?_ (.cons ?_ .nil))))))))))))))
       ·intro D V zw1 a hR hI K hK;obtain ⟨hM1, hB1, hG1⟩ := hI.1;have ze7 := hR.frame.other (t := 7) (by kernel_rfl) rfl;rw [if_pos (by rfl)];go_simp;exact hK (.pointer (some ⟨gs, 0, none⟩)) _ (hI.next hR (by kernel_rfl) (Mod.refl _ _) (PB.quiet hI.1 (Mod.refl _ _) (HGs.out D 0 zw1 zw1 (hI.1).g (Mod.refl _ _))) (upd_same V 0 _))
       ·intro D V zw1 a hR hI K hK;obtain ⟨hM1, hB1, hG1⟩ := hI.1;have zd0 := hR.pred 0 (by kernel_rfl);have zf0 : V 0 = .pointer (some ⟨gs, 0, none⟩) := hI.2 0 zd0 rfl;have ze19 := hR.frame.done (t := 19) (j := 0) (by kernel_rfl) hR.ok zd0;have zx0 := hG1.cell 0; have zx1 := hG1.cell 1; have zx2 := hG1.cell 2; have zx3 := hG1.cell 3; have zx4 := hG1.cell 4; have zx5 := hG1.cell 5; have zx6 := hG1.cell 6;simp at zx0 zx1 zx2 zx3 zx4 zx5 zx6;rw [if_pos (by rfl)];go_simp;exact hK (.string ⟨x.id.toArray⟩) _ (hI.next hR (by kernel_rfl) (Mod.refl _ _) (PB.quiet hI.1 (Mod.refl _ _) (HGs.out D 1 zw1 zw1 (hI.1).g (Mod.refl _ _))) (upd_same V 1 _))
       ·intro D V zw1 a hR hI K hK;obtain ⟨hM1, hB1, hG1⟩ := hI.1;have ze6 := hR.frame.other (t := 6) (by kernel_rfl) rfl;rw [if_pos (by rfl)];go_simp;exact hK (.int .i64 (j : Int)) _ (hI.next hR (by kernel_rfl) (Mod.refl _ _) (PB.quiet hI.1 (Mod.refl _ _) (HGs.out D 2 zw1 zw1 (hI.1).g (Mod.refl _ _))) (upd_same V 2 _))
       ·intro D V zw1 a hR hI K hK;obtain ⟨hM1, hB1, hG1⟩ := hI.1;have zd2 := hR.pred 2 (by kernel_rfl);have zf2 : V 2 = .int .i64 (j : Int) := hI.2 2 zd2 rfl;have ze21 := hR.frame.done (t := 21) (j := 2) (by kernel_rfl) hR.ok zd2;rw [if_pos (by rfl)];go_simp;refine (HID.out _).mono ?_;rintro e zw2 ⟨rfl, hm2⟩;exact hK (.string ⟨ij.toArray⟩) _ (hI.next hR (by kernel_rfl) hm2 (PB.quiet hI.1 hm2 (HGs.out D 3 _ _ (hI.1).g hm2)) (upd_same V 3 _))
       ·intro D V zw1 a hR hI K hK;obtain ⟨hM1, hB1, hG1⟩ := hI.1;have zd1 := hR.pred 1 (by kernel_rfl);have zf1 : V 1 = .string ⟨x.id.toArray⟩ := hI.2 1 zd1 rfl;have zd3 := hR.pred 3 (by kernel_rfl);have zf3 : V 3 = .string ⟨ij.toArray⟩ := hI.2 3 zd3 rfl;have ze20 := hR.frame.done (t := 20) (j := 1) (by kernel_rfl) hR.ok zd1;have ze22 := hR.frame.done (t := 22) (j := 3) (by kernel_rfl) hR.ok zd3;have hbo := HBO.out;rw [if_pos (by rfl)];go_simp;exact hK (.bool false) _ (hI.next hR (by kernel_rfl) (Mod.refl _ _) (PB.quiet hI.1 (Mod.refl _ _) (HGs.out D 4 zw1 zw1 (hI.1).g (Mod.refl _ _))) (upd_same V 4 _))
       ·intro D V zw1 a hR hI K hK;obtain ⟨hM1, hB1, hG1⟩ := hI.1;have zd4 := hR.pred 4 (by kernel_rfl);have zf4 : V 4 = .bool false := hI.2 4 zd4 rfl;have ze23 := hR.frame.done (t := 23) (j := 4) (by kernel_rfl) hR.ok zd4;rw [if_pos (by rfl)];go_simp;exact hK (.bool false) _ (hI.next hR (by kernel_rfl) (Mod.refl _ _) (PB.quiet hI.1 (Mod.refl _ _) (HGs.out D 5 zw1 zw1 (hI.1).g (Mod.refl _ _))) (upd_same V 5 _))
       ·intro D V zw1 a hR hI K hK;obtain ⟨hM1, hB1, hG1⟩ := hI.1;have zd5 := hR.pred 5 (by kernel_rfl);have zf5 : V 5 = .bool false := hI.2 5 zd5 rfl;have ze7 := hR.frame.other (t := 7) (by kernel_rfl) rfl;have ze24 := hR.frame.done (t := 24) (j := 5) (by kernel_rfl) hR.ok zd5;rw [if_pos (by simp [Region.wanted, yielded, ze24, zf5])];go_simp;exact hK (.pointer (some ⟨gs, 5, none⟩)) _ (hI.next hR (by kernel_rfl) (Mod.refl _ _) (PB.quiet hI.1 (Mod.refl _ _) (HGs.out D 6 zw1 zw1 (hI.1).g (Mod.refl _ _))) (upd_same V 6 _))
       ·intro D V zw1 a hR hI K hK;obtain ⟨hM1, hB1, hG1⟩ := hI.1;have zd6 := hR.pred 6 (by kernel_rfl);have zf6 : V 6 = .pointer (some ⟨gs, 5, none⟩) := hI.2 6 zd6 rfl;have zd5 := hR.pred 5 (by kernel_rfl);have zf5 : V 5 = .bool false := hI.2 5 zd5 rfl;have ze25 := hR.frame.done (t := 25) (j := 6) (by kernel_rfl) hR.ok zd6;have zx0 := hG1.cell 0; have zx1 := hG1.cell 1; have zx2 := hG1.cell 2; have zx3 := hG1.cell 3; have zx4 := hG1.cell 4; have zx5 := hG1.cell 5; have zx6 := hG1.cell 6;simp at zx0 zx1 zx2 zx3 zx4 zx5 zx6;have ze24 := hR.frame.done (t := 24) (j := 5) (by kernel_rfl) hR.ok zd5;rw [if_pos (by simp [Region.wanted, yielded, ze24, zf5])];go_simp;exact hK (.string ⟨x.par.toArray⟩) _ (hI.next hR (by kernel_rfl) (Mod.refl _ _) (PB.quiet hI.1 (Mod.refl _ _) (HGs.out D 7 zw1 zw1 (hI.1).g (Mod.refl _ _))) (upd_same V 7 _))
       ·intro D V zw1 a hR hI K hK;obtain ⟨hM1, hB1, hG1⟩ := hI.1;have zd7 := hR.pred 7 (by kernel_rfl);have zf7 : V 7 = .string ⟨x.par.toArray⟩ := hI.2 7 zd7 rfl;have zd5 := hR.pred 5 (by kernel_rfl);have zf5 : V 5 = .bool false := hI.2 5 zd5 rfl;have ze26 := hR.frame.done (t := 26) (j := 7) (by kernel_rfl) hR.ok zd7;have ze24 := hR.frame.done (t := 24) (j := 5) (by kernel_rfl) hR.ok zd5;rw [if_pos (by simp [Region.wanted, yielded, ze24, zf5])];go_simp;exact hK (.bool true) _ (hI.next hR (by kernel_rfl) (Mod.refl _ _) (PB.quiet hI.1 (Mod.refl _ _) (HGs.out D 8 zw1 zw1 (hI.1).g (Mod.refl _ _))) (upd_same V 8 _))
       ·intro D V zw1 a hR hI K hK;obtain ⟨hM1, hB1, hG1⟩ := hI.1;have zd5 := hR.pred 5 (by kernel_rfl);have zf5 : V 5 = .bool false := hI.2 5 zd5 rfl;have zd8 := hR.pred 8 (by kernel_rfl);have zf8 : V 8 = .bool true := hI.2 8 zd8 rfl;have ze24 := hR.frame.done (t := 24) (j := 5) (by kernel_rfl) hR.ok zd5;have ze27 := hR.frame.done (t := 27) (j := 8) (by kernel_rfl) hR.ok zd8;rw [if_pos (by rfl)];go_simp;exact hK (.bool true) _ (hI.next hR (by kernel_rfl) (Mod.refl _ _) (PB.quiet hI.1 (Mod.refl _ _) (HGs.out D 9 zw1 zw1 (hI.1).g (Mod.refl _ _))) (upd_same V 9 _))
       ·intro D V zw1 a hR hI K hK;obtain ⟨hM1, hB1, hG1⟩ := hI.1;have zd9 := hR.pred 9 (by kernel_rfl);have zf9 : V 9 = .bool true := hI.2 9 zd9 rfl;have ze28 := hR.frame.done (t := 28) (j := 9) (by kernel_rfl) hR.ok zd9;rw [if_pos (by rfl)];go_simp;exact hK (.bool true) _ (hI.next hR (by kernel_rfl) (Mod.refl _ _) (PB.quiet hI.1 (Mod.refl _ _) (HGs.out D 10 zw1 zw1 (hI.1).g (Mod.refl _ _))) (upd_same V 10 _))
       ·intro D V zw1 a hR hI K hK;obtain ⟨hM1, hB1, hG1⟩ := hI.1;have zd10 := hR.pred 10 (by kernel_rfl);have zf10 : V 10 = .bool true := hI.2 10 zd10 rfl;have ze29 := hR.frame.done (t := 29) (j := 10) (by kernel_rfl) hR.ok zd10;rw [if_neg (by simp [Region.wanted, yielded, ze29, zf10])];exact hK undef _ (hI.next hR (by kernel_rfl) (Mod.refl _ _) (PB.quiet hI.1 (Mod.refl _ _) (HGs.out D 11 zw1 zw1 (hI.1).g (Mod.refl _ _))) (upd_same V 11 _))
       ·intro D V zw1 a hR hI K hK;obtain ⟨hM1, hB1, hG1⟩ := hI.1;have zd10 := hR.pred 10 (by kernel_rfl);have zf10 : V 10 = .bool true := hI.2 10 zd10 rfl;have ze29 := hR.frame.done (t := 29) (j := 10) (by kernel_rfl) hR.ok zd10;rw [if_neg (by simp [Region.wanted, yielded, ze29, zf10])];exact hK undef _ (hI.next hR (by kernel_rfl) (Mod.refl _ _) (PB.quiet hI.1 (Mod.refl _ _) (HGs.out D 12 zw1 zw1 (hI.1).g (Mod.refl _ _))) (upd_same V 12 _))
       ·intro D V zw1 a hR hI K hK;obtain ⟨hM1, hB1, hG1⟩ := hI.1;have zd10 := hR.pred 10 (by kernel_rfl);have zf10 : V 10 = .bool true := hI.2 10 zd10 rfl;have ze29 := hR.frame.done (t := 29) (j := 10) (by kernel_rfl) hR.ok zd10;rw [if_neg (by simp [Region.wanted, yielded, ze29, zf10])];exact hK undef _ (hI.next hR (by kernel_rfl) (Mod.refl _ _) (PB.quiet hI.1 (Mod.refl _ _) (HGs.out D 13 zw1 zw1 (hI.1).g (Mod.refl _ _))) (upd_same V 13 _))
       ·intro D V zw1 a hR hI K hK;obtain ⟨hM1, hB1, hG1⟩ := hI.1;have zd10 := hR.pred 10 (by kernel_rfl);have zf10 : V 10 = .bool true := hI.2 10 zd10 rfl;have zd13 := hR.pred 13 (by kernel_rfl);have zf13 : V 13 = undef := hI.2 13 zd13 rfl;have ze29 := hR.frame.done (t := 29) (j := 10) (by kernel_rfl) hR.ok zd10;have ze32 := hR.frame.done (t := 32) (j := 13) (by kernel_rfl) hR.ok zd13;rw [if_pos (by rfl)];go_simp;exact hK (.bool true) _ (hI.next hR (by kernel_rfl) (Mod.refl _ _) (PB.quiet hI.1 (Mod.refl _ _) (HGs.out D 14 zw1 zw1 (hI.1).g (Mod.refl _ _))) (upd_same V 14 _))
      ·intro D V w3 hD hI;obtain ⟨hM1, hB1, hG1⟩ := hI.1;have hMx := hM1;clear hM1;have hBx := hB1;clear hB1;have hGx := hG1;clear hG1;have zf0 : V 0 = .pointer (some ⟨gs, 0, none⟩) := hI.2 0 (hD 0 (by decide)) rfl;have zf1 : V 1 = .string ⟨x.id.toArray⟩ := hI.2 1 (hD 1 (by decide)) rfl;have zf2 : V 2 = .int .i64 (j : Int) := hI.2 2 (hD 2 (by decide)) rfl;have zf3 : V 3 = .string ⟨ij.toArray⟩ := hI.2 3 (hD 3 (by decide)) rfl;have zf4 : V 4 = .bool false := hI.2 4 (hD 4 (by decide)) rfl;have zf5 : V 5 = .bool false := hI.2 5 (hD 5 (by decide)) rfl;have zf6 : V 6 = .pointer (some ⟨gs, 5, none⟩) := hI.2 6 (hD 6 (by decide)) rfl;have zf7 : V 7 = .string ⟨x.par.toArray⟩ := hI.2 7 (hD 7 (by decide)) rfl;have zf8 : V 8 = .bool true := hI.2 8 (hD 8 (by decide)) rfl;have zf9 : V 9 = .bool true := hI.2 9 (hD 9 (by decide)) rfl;have zf10 : V 10 = .bool true := hI.2 10 (hD 10 (by decide)) rfl;have zf11 : V 11 = undef := hI.2 11 (hD 11 (by decide)) rfl;have zf12 : V 12 = undef := hI.2 12 (hD 12 (by decide)) rfl;have zf13 : V 13 = undef := hI.2 13 (hD 13 (by decide)) rfl;have zf14 : V 14 = .bool true := hI.2 14 (hD 14 (by decide)) rfl;clear hI hD HGs;simp only [frAll, Act.put, List.setIfInBounds_toArray, List.set_cons_zero, List.set_cons_succ, Nat.zero_add, Nat.reduceAdd, zf0, zf1, zf2, zf3, zf4, zf5, zf6, zf7, zf8, zf9, zf10, zf11, zf12, zf13, zf14];clear zf0 zf1 zf2 zf3 zf4 zf5 zf6 zf7 zf8 zf9 zf10 zf11 zf12 zf13 zf14;clear V D
       go_wp2_with fail
       go_meet;exact ⟨rfl, hGx, hMx⟩
     ·obtain ⟨be, hbe⟩ : ∃ be, (e1 != 0) = be := ⟨_, rfl⟩
      obtain rfl : bad = be := by rw [HBAD.out, hpe, ← hbe]; rfl
      have HGs := Lib.hid (show ∀ (D : Nat → Bool) (zzi : Nat) (zq zq' : World), (fun _ zq => (fun Z => Blk Z gs 79 #[.string ⟨x.id.toArray⟩, .string ⟨x.cust.toArray⟩, .int .i64 x.kind, .string ⟨x.name.toArray⟩, .int .i64 x.tm, .string ⟨x.par.toArray⟩, .string ⟨x.text.toArray⟩]) zq) D zq → Mod (fun _ => False) zq zq' → (fun _ zq => (fun Z => Blk Z gs 79 #[.string ⟨x.id.toArray⟩, .string ⟨x.cust.toArray⟩, .int .i64 x.kind, .string ⟨x.name.toArray⟩, .int .i64 x.tm, .string ⟨x.par.toArray⟩, .string ⟨x.text.toArray⟩]) zq) (upd D zzi true) zq' from by intro D zzi zq zq' h hm; (exact h.modp hm))
      refine wp_region_inv (by kernel_rfl) (by kernel_rfl) (InvF (R := Mod (fun _ => False)) [.is (.pointer (some ⟨gs, 0, none⟩)),
        .is (.string ⟨x.id.toArray⟩),
        .is (.int .i64 (j : Int)),
        .is (.string ⟨ij.toArray⟩),
        .is (.bool false),
        .is (.bool false),
        .is (.pointer (some ⟨gs, 5, none⟩)),
        .is (.string ⟨x.par.toArray⟩),
        .is (.bool false),
        .is (.bool false),
        .is (.bool false),
        .is (.agg #[.string ⟨x.id.toArray⟩, .string ⟨x.cust.toArray⟩, .int .i64 x.kind, .string ⟨x.name.toArray⟩, .int .i64 x.tm, .string ⟨x.par.toArray⟩, .string ⟨x.text.toArray⟩]),
        .is (.int .i64 e1),
        .is (.bool bad),
        .is (.bool bad)]
        (PB w2 (fun _ => False) WS.heap.size (fun _ zq => (fun Z => Blk Z gs 79 #[.string ⟨x.id.toArray⟩, .string ⟨x.cust.toArray⟩, .int .i64 x.kind, .string ⟨x.name.toArray⟩, .int .i64 x.tm, .string ⟨x.par.toArray⟩, .string ⟨x.text.toArray⟩]) zq))) (InvF.start (PB.start Hm0.out (Nat.le_refl _) (HB0.out.drew))) ?_ ?_
      ·refine .cons ?_ (.cons ?_ (.cons ?_ (.cons ?_ (.cons ?_ (.cons ?_ (.cons ?_ (.cons ?_ (.cons ?_ (.cons ?_ (.cons ?_ (.cons ?_ (.cons ?_ (.cons ?_ (.cons ?_ .nil))))))))))))))
       ·intro D V zw1 a hR hI K hK;obtain ⟨hM1, hB1, hG1⟩ := hI.1;have ze7 := hR.frame.other (t := 7) (by kernel_rfl) rfl;rw [if_pos (by rfl)];go_simp;exact hK (.pointer (some ⟨gs, 0, none⟩)) _ (hI.next hR (by kernel_rfl) (Mod.refl _ _) (PB.quiet hI.1 (Mod.refl _ _) (HGs.out D 0 zw1 zw1 (hI.1).g (Mod.refl _ _))) (upd_same V 0 _))
       ·intro D V zw1 a hR hI K hK;obtain ⟨hM1, hB1, hG1⟩ := hI.1;have zd0 := hR.pred 0 (by kernel_rfl);have zf0 : V 0 = .pointer (some ⟨gs, 0, none⟩) := hI.2 0 zd0 rfl;have ze19 := hR.frame.done (t := 19) (j := 0) (by kernel_rfl) hR.ok zd0;have zx0 := hG1.cell 0; have zx1 := hG1.cell 1; have zx2 := hG1.cell 2; have zx3 := hG1.cell 3; have zx4 := hG1.cell 4; have zx5 := hG1.cell 5; have zx6 := hG1.cell 6;simp at zx0 zx1 zx2 zx3 zx4 zx5 zx6;rw [if_pos (by rfl)];go_simp;exact hK (.string ⟨x.id.toArray⟩) _ (hI.next hR (by kernel_rfl) (Mod.refl _ _) (PB.quiet hI.1 (Mod.refl _ _) (HGs.out D 1 zw1 zw1 (hI.1).g (Mod.refl _ _))) (upd_same V 1 _))
       ·intro D V zw1 a hR hI K hK;obtain ⟨hM1, hB1, hG1⟩ := hI.1;have ze6 := hR.frame.other (t := 6) (by kernel_rfl) rfl;rw [if_pos (by rfl)];go_simp;exact hK (.int .i64 (j : Int)) _ (hI.next hR (by kernel_rfl) (Mod.refl _ _) (PB.quiet hI.1 (Mod.refl _ _) (HGs.out D 2 zw1 zw1 (hI.1).g (Mod.refl _ _))) (upd_same V 2 _))
       ·intro D V zw1 a hR hI K hK;obtain ⟨hM1, hB1, hG1⟩ := hI.1;have zd2 := hR.pred 2 (by kernel_rfl);have zf2 : V 2 = .int .i64 (j : Int) := hI.2 2 zd2 rfl;have ze21 := hR.frame.done (t := 21) (j := 2) (by kernel_rfl) hR.ok zd2;rw [if_pos (by rfl)];go_simp;refine (HID.out _).mono ?_;rintro e zw2 ⟨rfl, hm2⟩;exact hK (.string ⟨ij.toArray⟩) _ (hI.next hR (by kernel_rfl) hm2 (PB.quiet hI.1 hm2 (HGs.out D 3 _ _ (hI.1).g hm2)) (upd_same V 3 _))
       ·intro D V zw1 a hR hI K hK;obtain ⟨hM1, hB1, hG1⟩ := hI.1;have zd1 := hR.pred 1 (by kernel_rfl);have zf1 : V 1 = .string ⟨x.id.toArray⟩ := hI.2 1 zd1 rfl;have zd3 := hR.pred 3 (by kernel_rfl);have zf3 : V 3 = .string ⟨ij.toArray⟩ := hI.2 3 zd3 rfl;have ze20 := hR.frame.done (t := 20) (j := 1) (by kernel_rfl) hR.ok zd1;have ze22 := hR.frame.done (t := 22) (j := 3) (by kernel_rfl) hR.ok zd3;have hbo := HBO.out;rw [if_pos (by rfl)];go_simp;exact hK (.bool false) _ (hI.next hR (by kernel_rfl) (Mod.refl _ _) (PB.quiet hI.1 (Mod.refl _ _) (HGs.out D 4 zw1 zw1 (hI.1).g (Mod.refl _ _))) (upd_same V 4 _))
       ·intro D V zw1 a hR hI K hK;obtain ⟨hM1, hB1, hG1⟩ := hI.1;have zd4 := hR.pred 4 (by kernel_rfl);have zf4 : V 4 = .bool false := hI.2 4 zd4 rfl;have ze23 := hR.frame.done (t := 23) (j := 4) (by kernel_rfl) hR.ok zd4;rw [if_pos (by rfl)];go_simp;exact hK (.bool false) _ (hI.next hR (by kernel_rfl) (Mod.refl _ _) (PB.quiet hI.1 (Mod.refl _ _) (HGs.out D 5 zw1 zw1 (hI.1).g (Mod.refl _ _))) (upd_same V 5 _))
       ·intro D V zw1 a hR hI K hK;obtain ⟨hM1, hB1, hG1⟩ := hI.1;have zd5 := hR.pred 5 (by kernel_rfl);have zf5 : V 5 = .bool false := hI.2 5 zd5 rfl;have ze7 := hR.frame.other (t := 7) (by kernel_rfl) rfl;have ze24 := hR.frame.done (t := 24) (j := 5) (by kernel_rfl) hR.ok zd5;rw [if_pos (by simp [Region.wanted, yielded, ze24, zf5])];go_simp;exact hK (.pointer (some ⟨gs, 5, none⟩)) _ (hI.next hR (by kernel_rfl) (Mod.refl _ _) (PB.quiet hI.1 (Mod.refl _ _) (HGs.out D 6 zw1 zw1 (hI.1).g (Mod.refl _ _))) (upd_same V 6 _))
       ·intro D V zw1 a hR hI K hK;obtain ⟨hM1, hB1, hG1⟩ := hI.1;have zd6 := hR.pred 6 (by kernel_rfl);have zf6 : V 6 = .pointer (some ⟨gs, 5, none⟩) := hI.2 6 zd6 rfl;have zd5 := hR.pred 5 (by kernel_rfl);have zf5 : V 5 = .bool false := hI.2 5 zd5 rfl;have ze25 := hR.frame.done (t := 25) (j := 6) (by kernel_rfl) hR.ok zd6;have zx0 := hG1.cell 0; have zx1 := hG1.cell 1; have zx2 := hG1.cell 2; have zx3 := hG1.cell 3; have zx4 := hG1.cell 4; have zx5 := hG1.cell 5; have zx6 := hG1.cell 6;simp at zx0 zx1 zx2 zx3 zx4 zx5 zx6;have ze24 := hR.frame.done (t := 24) (j := 5) (by kernel_rfl) hR.ok zd5;rw [if_pos (by simp [Region.wanted, yielded, ze24, zf5])];go_simp;exact hK (.string ⟨x.par.toArray⟩) _ (hI.next hR (by kernel_rfl) (Mod.refl _ _) (PB.quiet hI.1 (Mod.refl _ _) (HGs.out D 7 zw1 zw1 (hI.1).g (Mod.refl _ _))) (upd_same V 7 _))
       ·intro D V zw1 a hR hI K hK;obtain ⟨hM1, hB1, hG1⟩ := hI.1;have zd7 := hR.pred 7 (by kernel_rfl);have zf7 : V 7 = .string ⟨x.par.toArray⟩ := hI.2 7 zd7 rfl;have zd5 := hR.pred 5 (by kernel_rfl);have zf5 : V 5 = .bool false := hI.2 5 zd5 rfl;have ze26 := hR.frame.done (t := 26) (j := 7) (by kernel_rfl) hR.ok zd7;have ze24 := hR.frame.done (t := 24) (j := 5) (by kernel_rfl) hR.ok zd5;rw [if_pos (by simp [Region.wanted, yielded, ze24, zf5])];go_simp;exact hK (.bool false) _ (hI.next hR (by kernel_rfl) (Mod.refl _ _) (PB.quiet hI.1 (Mod.refl _ _) (HGs.out D 8 zw1 zw1 (hI.1).g (Mod.refl _ _))) (upd_same V 8 _))
       ·intro D V zw1 a hR hI K hK;obtain ⟨hM1, hB1, hG1⟩ := hI.1;have zd5 := hR.pred 5 (by kernel_rfl);have zf5 : V 5 = .bool false := hI.2 5 zd5 rfl;have zd8 := hR.pred 8 (by kernel_rfl);have zf8 : V 8 = .bool false := hI.2 8 zd8 rfl;have ze24 := hR.frame.done (t := 24) (j := 5) (by kernel_rfl) hR.ok zd5;have ze27 := hR.frame.done (t := 27) (j := 8) (by kernel_rfl) hR.ok zd8;rw [if_pos (by rfl)];go_simp;exact hK (.bool false) _ (hI.next hR (by kernel_rfl) (Mod.refl _ _) (PB.quiet hI.1 (Mod.refl _ _) (HGs.out D 9 zw1 zw1 (hI.1).g (Mod.refl _ _))) (upd_same V 9 _))
       ·intro D V zw1 a hR hI K hK;obtain ⟨hM1, hB1, hG1⟩ := hI.1;have zd9 := hR.pred 9 (by kernel_rfl);have zf9 : V 9 = .bool false := hI.2 9 zd9 rfl;have ze28 := hR.frame.done (t := 28) (j := 9) (by kernel_rfl) hR.ok zd9;rw [if_pos (by rfl)];go_simp;exact hK (.bool false) _ (hI.next hR (by kernel_rfl) (Mod.refl _ _) (PB.quiet hI.1 (Mod.refl _ _) (HGs.out D 10 zw1 zw1 (hI.1).g (Mod.refl _ _))) (upd_same V 10 _))
       ·intro D V zw1 a hR hI K hK;obtain ⟨hM1, hB1, hG1⟩ := hI.1;have zd10 := hR.pred 10 (by kernel_rfl);have zf10 : V 10 = .bool false := hI.2 10 zd10 rfl;have ze7 := hR.frame.other (t := 7) (by kernel_rfl) rfl;have zx0 := hG1.cell 0; have zx1 := hG1.cell 1; have zx2 := hG1.cell 2; have zx3 := hG1.cell 3; have zx4 := hG1.cell 4; have zx5 := hG1.cell 5; have zx6 := hG1.cell 6;simp at zx0 zx1 zx2 zx3 zx4 zx5 zx6;have ze29 := hR.frame.done (t := 29) (j := 10) (by kernel_rfl) hR.ok zd10;rw [if_pos (by simp [Region.wanted, yielded, ze29, zf10])];go_simp;exact hK (.agg #[.string ⟨x.id.toArray⟩, .string ⟨x.cust.toArray⟩, .int .i64 x.kind, .string ⟨x.name.toArray⟩, .int .i64 x.tm, .string ⟨x.par.toArray⟩, .string ⟨x.text.toArray⟩]) _ (hI.next hR (by kernel_rfl) (Mod.refl _ _) (PB.quiet hI.1 (Mod.refl _ _) (HGs.out D 11 zw1 zw1 (hI.1).g (Mod.refl _ _))) (upd_same V 11 _))
       ·intro D V zw1 a hR hI K hK;obtain ⟨hM1, hB1, hG1⟩ := hI.1;have zd11 := hR.pred 11 (by kernel_rfl);have zf11 : V 11 = .agg #[.string ⟨x.id.toArray⟩, .string ⟨x.cust.toArray⟩, .int .i64 x.kind, .string ⟨x.name.toArray⟩, .int .i64 x.tm, .string ⟨x.par.toArray⟩, .string ⟨x.text.toArray⟩] := hI.2 11 zd11 rfl;have zd10 := hR.pred 10 (by kernel_rfl);have zf10 : V 10 = .bool false := hI.2 10 zd10 rfl;have ze30 := hR.frame.done (t := 30) (j := 11) (by kernel_rfl) hR.ok zd11;have ze29 := hR.frame.done (t := 29) (j := 10) (by kernel_rfl) hR.ok zd10;rw [if_pos (by simp [Region.wanted, yielded, ze29, zf10])];go_simp;refine (HIF.out _ (m2.transp hM1)).mono ?_;rintro e zw2 ⟨rfl, hm2⟩;exact hK (.int .i64 e1) _ (hI.next hR (by kernel_rfl) hm2 (PB.quiet hI.1 hm2 (HGs.out D 12 _ _ (hI.1).g hm2)) (upd_same V 12 _))
       ·intro D V zw1 a hR hI K hK;obtain ⟨hM1, hB1, hG1⟩ := hI.1;have zd12 := hR.pred 12 (by kernel_rfl);have zf12 : V 12 = .int .i64 e1 := hI.2 12 zd12 rfl;have zd10 := hR.pred 10 (by kernel_rfl);have zf10 : V 10 = .bool false := hI.2 10 zd10 rfl;have ze31 := hR.frame.done (t := 31) (j := 12) (by kernel_rfl) hR.ok zd12;have hbe2 := hbe;have ze29 := hR.frame.done (t := 29) (j := 10) (by kernel_rfl) hR.ok zd10;rw [if_pos (by simp [Region.wanted, yielded, ze29, zf10])];go_simp;exact hK (.bool bad) _ (hI.next hR (by kernel_rfl) (Mod.refl _ _) (PB.quiet hI.1 (Mod.refl _ _) (HGs.out D 13 zw1 zw1 (hI.1).g (Mod.refl _ _))) (upd_same V 13 _))
       ·intro D V zw1 a hR hI K hK;obtain ⟨hM1, hB1, hG1⟩ := hI.1;have zd10 := hR.pred 10 (by kernel_rfl);have zf10 : V 10 = .bool false := hI.2 10 zd10 rfl;have zd13 := hR.pred 13 (by kernel_rfl);have zf13 : V 13 = .bool bad := hI.2 13 zd13 rfl;have ze29 := hR.frame.done (t := 29) (j := 10) (by kernel_rfl) hR.ok zd10;have ze32 := hR.frame.done (t := 32) (j := 13) (by kernel_rfl) hR.ok zd13;rw [if_pos (by rfl)];go_simp;exact hK (.bool bad) _ (hI.next hR (by kernel_rfl) (Mod.refl _ _) (PB.quiet hI.1 (Mod.refl _ _) (HGs.out D 14 zw1 zw1 (hI.1).g (Mod.refl _ _))) (upd_same V 14 _))
      ·intro D V w3 hD hI;obtain ⟨hM1, hB1, hG1⟩ := hI.1;have hMx := hM1;clear hM1;have hBx := hB1;clear hB1;have hGx := hG1;clear hG1;have zf0 : V 0 = .pointer (some ⟨gs, 0, none⟩) := hI.2 0 (hD 0 (by decide)) rfl;have zf1 : V 1 = .string ⟨x.id.toArray⟩ := hI.2 1 (hD 1 (by decide)) rfl;have zf2 : V 2 = .int .i64 (j : Int) := hI.2 2 (hD 2 (by decide)) rfl;have zf3 : V 3 = .string ⟨ij.toArray⟩ := hI.2 3 (hD 3 (by decide)) rfl;have zf4 : V 4 = .bool false := hI.2 4 (hD 4 (by decide)) rfl;have zf5 : V 5 = .bool false := hI.2 5 (hD 5 (by decide)) rfl;have zf6 : V 6 = .pointer (some ⟨gs, 5, none⟩) := hI.2 6 (hD 6 (by decide)) rfl;have zf7 : V 7 = .string ⟨x.par.toArray⟩ := hI.2 7 (hD 7 (by decide)) rfl;have zf8 : V 8 = .bool false := hI.2 8 (hD 8 (by decide)) rfl;have zf9 : V 9 = .bool false := hI.2 9 (hD 9 (by decide)) rfl;have zf10 : V 10 = .bool false := hI.2 10 (hD 10 (by decide)) rfl;have zf11 : V 11 = .agg #[.string ⟨x.id.toArray⟩, .string ⟨x.cust.toArray⟩, .int .i64 x.kind, .string ⟨x.name.toArray⟩, .int .i64 x.tm, .string ⟨x.par.toArray⟩, .string ⟨x.text.toArray⟩] := hI.2 11 (hD 11 (by decide)) rfl;have zf12 : V 12 = .int .i64 e1 := hI.2 12 (hD 12 (by decide)) rfl;have zf13 : V 13 = .bool bad := hI.2 13 (hD 13 (by decide)) rfl;have zf14 : V 14 = .bool bad := hI.2 14 (hD 14 (by decide)) rfl;clear hI hD HGs;simp only [frAll, Act.put, List.setIfInBounds_toArray, List.set_cons_zero, List.set_cons_succ, Nat.zero_add, Nat.reduceAdd, zf0, zf1, zf2, zf3, zf4, zf5, zf6, zf7, zf8, zf9, zf10, zf11, zf12, zf13, zf14];clear zf0 zf1 zf2 zf3 zf4 zf5 zf6 zf7 zf8 zf9 zf10 zf11 zf12 zf13 zf14;clear V D
       go_wp2_with fail
       go_meet;exact ⟨rfl, hGx, hMx⟩
   case rest =>
    obtain ⟨rfl, B3, m3⟩ := hcut;have own3 := own_pure own2 m3;have hS3 := hS2.pure m3;have mm3 := m2.transp m3;have hsz3 := m3.size
    have HXZ2 : Hid (∀ y ∈ xs ++ [x], ItG y) := Lib.hid (fun y hy => by
     rcases List.mem_append.1 hy with hy | hy
     ·exact HXZ.out y hy
     ·rw [List.mem_singleton.1 hy]; exact HX.out)
    have HXV : Hid (itV (xs ++ [x]) = itV xs ++ [.string ⟨x.id.toArray⟩, .string ⟨x.cust.toArray⟩, .int .i64 x.kind, .string ⟨x.name.toArray⟩, .int .i64 x.tm, .string ⟨x.par.toArray⟩, .string ⟨x.text.toArray⟩]) := Lib.hid (itV_snoc xs x);clear HIF HX HBAD HBO HB0 Hm0 WS hS2 m2 own2 m3 HID
    cases bad
    ·have c0 := B3.cell 0; have c1 := B3.cell 1; have c2 := B3.cell 2; have c3 := B3.cell 3; have c4 := B3.cell 4; have c5 := B3.cell 5; have c6 := B3.cell 6; simp at c0 c1 c2 c3 c4 c5 c6;clear B3
     go_wp2_with (at_builtin; refine wpList_append_lies _ rfl _ _ _ rfl w.heap.size 79 i0 _ 7 96 Tryz.underlying26 hi0 hz0 hz1 hz2 rfl (by omega) (.slice A xs.length cap) xs.length (itV xs) rfl (own3.alloc _) ⟨wc.heap.size, 0, none⟩ 1 1 [.string ⟨x.id.toArray⟩, .string ⟨x.cust.toArray⟩, .int .i64 x.kind, .string ⟨x.name.toArray⟩, .int .i64 x.tm, .string ⟨x.par.toArray⟩, .string ⟨x.text.toArray⟩] rfl rfl (World.news_of_block (cs := #[.string ⟨x.id.toArray⟩, .string ⟨x.cust.toArray⟩, .int .i64 x.kind, .string ⟨x.name.toArray⟩, .int .i64 x.tm, .string ⟨x.par.toArray⟩, .string ⟨x.text.toArray⟩]) (t := 79) (fr := (0, 0)) (heap_alloc_new wc _)) (by simp [Value.oneCell']) (by omega) (by simp [maxLen]; omega) (by omega) (by have := mm3.size; simp; omega) (wc.heap.size + 1) (by simp) ?_; intro g5 cap5 w5 hown5 hgrow hat hlt5)
     go_roundg (m - (j + 1))
     case measure => omega
     case rel =>
      have hz5 := hgrow.size;simp at hz5;refine ⟨j + 1, xs ++ [x], some ⟨g5, 0, none⟩, cap5, rfl, by omega, by simp, by simp, by simp; omega, HXZ2.out, ?_, (hS3.alloc _ |>.mod (S := fun k => (Value.slice A xs.length cap).ownBlock = some k) ⟨hgrow.os, hgrow.tape, hgrow.output, hgrow.size, fun k hk hs => hgrow.block k hk (fun x => hs x.symm)⟩ (fun i hi hk => by have := own_block own3 i hk; omega)).more (by omega), (mm3.alloc _).grown hgrow (fun k hk => .inr (by have := own_block own3 k hk; omega)), by omega⟩;rw [HXV.out]
      simpa using hown5
    ·go_wp2_with fail
     go_roundg (m - (j + 1))
     case measure => omega
     case rel => exact ⟨j + 1, xs, A, cap, rfl, by omega, rfl, by simp, by omega, HXZ.out, own3, hS3.more (by omega), mm3, by omega⟩
  ·obtain rfl : j = m := by omega
   by_cases h0 : xs.length = 0
   ·have e0 : xs = [] := List.eq_nil_of_length_eq_zero h0;subst e0;have d0 : decide ((0 : Int) < 0) = false := rfl
    go_wp2_with fail
    go_loopg [41] 0 (fun gk i wx => i = .int .i64 0 ∧ gk = 0 ∧ wr = wx)
    case atStart => exact ⟨rfl, rfl, rfl⟩
    case round =>
     obtain ⟨rfl, rfl, rfl⟩ := hrel
     go_wp2_with fail
     go_ret;exact ⟨.slice A 0 cap, [], rfl, by simp, le_nilI, hown, hS.more (by omega), hmm⟩
   ·obtain ⟨g, cap', hform, hg1, hg2, hcap, hcap2⟩ := own_form7 hown (by omega)
    injection hform with hA _ hC
    subst hA hC;have hownI : OwnI wr w.heap.size g xs.length cap xs := hown
    have hl20 : xs.length ≤ 20 := by omega
    have hxn := hxj;clear hown hlt;generalize hn : xs.length = n at *;clear hn;obtain ⟨base, hbase⟩ : ∃ base, base = w.heap.size := ⟨_, rfl⟩;rw [← hbase] at hownI hg1;have hba1 := Nat.le_of_eq hbase;have hba2 := Nat.le_of_eq hbase.symm;have HBA := Lib.hid hbase;clear hbase
    go_wp2_with fail
    go_loopg [41] n (fun gk i wr => Ri2 w b (N + 140 * j) base g n cap gk i wr)
    case atStart => exact ⟨0, xs, rfl, by omega, rfl, hxz, hownI, hS.more (by omega), hmm⟩
    case round =>
     clear hxz hownI hS hmm hxj;obtain ⟨k, ys, rfl, hk, rfl, hyz, hown, hS, hmm⟩ := hrel;have hyl := hown.len;have hgl := hown.ge;have hbs := hS.lt
     by_cases hlt : k < n
     ·have HYZ := Lib.hid hyz;clear hyz
      go_wp2_with fail
      refine (flip_calls _ b _ _ hS (by omega) (by omega) (by omega)).mono ?_;rintro e w1 ⟨fl, rfl, hS1, hM1⟩;have own1 := hown.mod hM1 (by omega);have m1 := hmm.trans hM1;clear hS hown hmm hM1
      cases fl
      ·go_wp2_with fail
       refine (next_calls _ b _ _ hS1 (by omega) (by omega) (by omega)).mono ?_;rintro e w2 ⟨q, hq0, hq1, rfl, hS2, hM2⟩;obtain ⟨q, rfl⟩ := Int.eq_ofNat_of_zero_le hq0;have own2 := own1.mod hM2 (by omega);have m2 := m1.trans hM2
       have hqn : q < n := by omega
       have hqy : q < ys.length := by omega
       have hky : k < ys.length := by omega
       have HI0 := Lib.hid (own2.cells hqy).1;have HP0 := Lib.hid (own2.cells hky).2.2.2.2.2.1;have HF0 := Lib.hid (own2.frozen (k * 7 + 5));have HO1 := Lib.hid (own2.setPar hky ys[q].id);have HZ1 : Hid (∀ x ∈ ys.set k { ys[k] with par := ys[q].id }, ItG x) := Lib.hid (set_all HYZ.out ((HYZ.out _ (List.getElem_mem hky)).par (by have := (HYZ.out _ (List.getElem_mem hqy)).1; omega)));have HZK := Lib.hid (HYZ.out _ (List.getElem_mem hky))
       have hsk : k < (ys.set k { ys[k] with par := ys[q].id }).length := by simpa using hky
       have HO2 := Lib.hid (fun (W : World) (h : OwnI W base g n cap (ys.set k { ys[k] with par := ys[q].id })) => h.setPar hsk ys[k].par);have HZ2 : Hid (∀ x ∈ (ys.set k { ys[k] with par := ys[q].id }).set k { (ys.set k { ys[k] with par := ys[q].id })[k] with par := ys[k].par }, ItG x) := Lib.hid (set_all HZ1.out ((HZ1.out _ (List.getElem_mem hsk)).par (by have := HZK.out.2.2.2.1; omega)));generalize (ys.set k { ys[k] with par := ys[q].id }).set k { (ys.set k { ys[k] with par := ys[q].id })[k] with par := ys[k].par } = y2 at *;generalize ys.set k { ys[k] with par := ys[q].id } = y1 at *;generalize ys[q].id = qid at *;generalize ys[k].par = kpar at *;clear hS1 m1 own1 hM2 own2 hq0 hq1 hqy hky hsk HZK HYZ hyl
       have j1 : (0 : Int) ≤ (k : Int) := by omega
       have j2 : (k : Int) < (n : Int) := by omega
       have j3 : (0 : Int) ≤ (q : Int) := by omega
       have j4 : (q : Int) < (n : Int) := by omega
       have c0 := HI0.out;have c1 := HP0.out;have c2 := HF0.out;have HM2 := Lib.hid (m2.setCell (p := ⟨g, k * 7 + 5, none⟩) (.inr (by show _ ≤ g; omega)) (.string ⟨qid.toArray⟩));have HS2 := Lib.hid (hS2.setCell (p := ⟨g, k * 7 + 5, none⟩) (by show _ < g; omega) (.string ⟨qid.toArray⟩));have hown1 := HO1.out;have hy1 := hown1.len;have c3 := hown1.frozen (k * 7 + 5)
       have hky1 : k < y1.length := by omega
       have HIF := Lib.hid (fun W (h : Mod (· = b) w W) (h2 : OwnI W base g n cap y1) => itemsFault_calls W _ y1 h2.its (fun z h => (HZ1.out z h).b) (by omega) (HE.out W h));obtain ⟨e1, he1⟩ : ∃ e1, itsE itemE y1 = e1 := ⟨_, rfl⟩;rw [he1] at HIF;have HOW := Lib.hid hown1;clear he1 HI0 HP0 HF0 HO1 hown1 hS2 m2;have HC4 := Lib.hid (fun W (h : OwnI W base g n cap y1) => (h.cells hky1).2.2.2.2.2.1);have HG : Hid (b < g ∧ w.heap.size ≤ g) := Lib.hid ⟨by omega, by omega⟩
       have FIN : Hid (∀ W, Strm W b (N + 140 * j + 2 * k + 1 + 1) → Mod (· = b) w W → OwnI W base g n cap y1 → Strm (W.setCell ⟨g, k * 7 + 5, none⟩ (.string ⟨kpar.toArray⟩)) b (N + 140 * j + 2 * (k + 1)) ∧ Mod (· = b) w (W.setCell ⟨g, k * 7 + 5, none⟩ (.string ⟨kpar.toArray⟩)) ∧ OwnI (W.setCell ⟨g, k * 7 + 5, none⟩ (.string ⟨kpar.toArray⟩)) base g n cap y2) :=
        Lib.hid (fun W h1 h2 h3 => ⟨(h1.setCell (p := ⟨g, k * 7 + 5, none⟩) HG.out.1 _).more (by omega), h2.setCell (p := ⟨g, k * 7 + 5, none⟩) (.inr HG.out.2) _, HO2.out W h3⟩)
       by_cases hqk : q = k
       ·have hqk' : ((q : Int) == (k : Int)) = true := by rw [hqk]; simp
        clear hqk HIF HC4
        go_wp2_with fail
        obtain ⟨f1, f2, f3⟩ := FIN.out _ HS2.out HM2.out HOW.out
        go_roundg (n - (k + 1))
        case measure => omega
        case rel => exact ⟨k + 1, y2, rfl, by omega, by simp, HZ2.out, f3, f1, f2⟩
       ·have hqk' : ((q : Int) == (k : Int)) = false := by simp; omega
        clear hqk
        go_wp2_with fail
        refine (HIF.out _ HM2.out HOW.out).mono ?_;rintro e w3 ⟨rfl, hm3⟩;have m3 := HM2.out.transp hm3;have hS3 := HS2.out.pure hm3;have own3 := HOW.out.mod hm3 id;have c5 := own3.frozen (k * 7 + 5);have H3 := Lib.hid own3;clear HIF HM2 HS2 HOW own3 c0 c1 c2 c3 hm3
        by_cases he : e1 = 0
        ·subst he
         go_wp2_with fail
         go_roundg (n - (k + 1))
         case measure => omega
         case rel => exact ⟨k + 1, y1, rfl, by omega, by simp, HZ1.out, H3.out, hS3.more (by omega), m3⟩
        ·have he' : (e1 != 0) = true := by simpa using he
         clear he;have hc4 := HC4.out _ H3.out
         go_wp2_with fail
         obtain ⟨f1, f2, f3⟩ := FIN.out _ hS3 m3 H3.out
         go_roundg (n - (k + 1))
         case measure => omega
         case rel => exact ⟨k + 1, y2, rfl, by omega, by simp, HZ2.out, f3, f1, f2⟩
      ·go_wp2_with fail
       go_roundg (n - (k + 1))
       case measure => omega
       case rel => exact ⟨k + 1, ys, rfl, by omega, by simp, HYZ.out, own1, hS1.more (by omega), m1⟩
     ·obtain rfl : k = n := by omega
      go_wp2_with fail
      go_ret;exact ⟨.slice (some ⟨g, 0, none⟩) k cap, ys, rfl, by omega, hyz, by rw [hyl, ← HBA.out]; exact hown, hS.more (by omega), hmm⟩
def ItemsPost (w : World) (b N m : Nat) (e : Ending) (w' : World) : Prop :=
 ∃ (v : Value) (xs : List Itm), e = .returned v ∧ xs.length ≤ m ∧ (∀ x ∈ xs, ItB x) ∧ w'.ownsRow w.heap.size 79 7 v xs.length (itV xs) ∧ Strm w' b N ∧ Mod (· = b) w w'
theorem ItemsPostG.b {w : World} {b N m : Nat} {e : Ending} {w' : World} (h : ItemsPostG w b N m e w') : ItemsPost w b N m e w' := by
 obtain ⟨v, xs, h1, h2, h3, h4⟩ := h;exact ⟨v, xs, h1, h2, fun x hx => (h3 x hx).b, h4⟩
end Go.Proofs.YtgfgggeeoeppjaaGreatDoor
/- The generators of items: Items. -/
namespace Go.Proofs.YtgfgggeeoeppjaaGreatDoor
open Go.RowKit
theorem OwnI.setFld {w : World} {base g n cap k : Nat} {xs : List Itm} (h : OwnI w base g n cap xs) (hk : k < xs.length) (d : Nat) (hd : d < 7) (u : Value) (x' : Itm) (hx : (itC xs[k]).set d u = itC x') : OwnI (w.setCell ⟨g, k * 7 + d, none⟩ u) base g n cap (xs.set k x') := by
 have h1 := (World.ownsRow.stored h (k * 7 + d) u).1;rw [itV_set xs k x' d _ hk hd (by simpa [List.getD, hk] using hx)] at h1;exact h1
theorem OwnI.setItem {w : World} {base g n cap k : Nat} {xs : List Itm} (h : OwnI w base g n cap xs) (hk : k < xs.length) (y : Itm) :
  OwnI (((((((w.setCell ⟨g, k * 7, none⟩ (.string ⟨y.id.toArray⟩)).setCell ⟨g, k * 7 + 1, none⟩ (.string ⟨y.cust.toArray⟩)).setCell ⟨g, k * 7 + 2, none⟩ (.int .i64 y.kind)).setCell ⟨g, k * 7 + 3, none⟩ (.string ⟨y.name.toArray⟩)).setCell ⟨g, k * 7 + 4, none⟩ (.int .i64 y.tm)).setCell ⟨g, k * 7 + 5, none⟩ (.string ⟨y.par.toArray⟩)).setCell ⟨g, k * 7 + 6, none⟩ (.string ⟨y.text.toArray⟩)) base g n cap (xs.set k y) := by
 obtain ⟨y0, y1, y2, y3, y4, y5, y6⟩ := y;have h0 := h.setFld hk 0 (by omega) (.string ⟨y0.toArray⟩) { xs[k] with id := y0 } rfl;have h1 := h0.setFld (by simpa using hk) 1 (by omega) (.string ⟨y1.toArray⟩) { xs[k] with id := y0, cust := y1 } (by simp [itC]);have h2 := h1.setFld (by simpa using hk) 2 (by omega) (.int .i64 y2) { xs[k] with id := y0, cust := y1, kind := y2 } (by simp [itC]);have h3 := h2.setFld (by simpa using hk) 3 (by omega) (.string ⟨y3.toArray⟩) { xs[k] with id := y0, cust := y1, kind := y2, name := y3 } (by simp [itC]);have h4 := h3.setFld (by simpa using hk) 4 (by omega) (.int .i64 y4) { xs[k] with id := y0, cust := y1, kind := y2, name := y3, tm := y4 } (by simp [itC]);have h5 := h4.setFld (by simpa using hk) 5 (by omega) (.string ⟨y5.toArray⟩) { xs[k] with id := y0, cust := y1, kind := y2, name := y3, tm := y4, par := y5 } (by simp [itC]);have h6 := h5.setFld (by simpa using hk) 6 (by omega) (.string ⟨y6.toArray⟩) ⟨y0, y1, y2, y3, y4, y5, y6⟩ (by simp [itC])
 simpa using h6
theorem Mod.setR {w W : World} {b g : Nat} (h : Mod (· = b) w W) (hg : w.heap.size ≤ g) (j : Nat) (u : Value) : Mod (· = b) w (W.setCell ⟨g, j, none⟩ u) := h.setCell (p := ⟨g, j, none⟩) (.inr hg) u
theorem Strm.setR {W : World} {b N g : Nat} (h : Strm W b N) (hg : b < g) (j : Nat) (u : Value) : Strm (W.setCell ⟨g, j, none⟩ u) b N := h.setCell (p := ⟨g, j, none⟩) hg u
theorem itemIdZ_calls (w : World) (k : Int) (h0 : 0 ≤ k) (hk : k < 26) : Calls Tryz.prog 44 #[.int .i64 k] w (fun e w' => ∃ s : Str, s.length ≤ 100 ∧ e = .returned (.string ⟨s.toArray⟩) ∧ Pure w w') := by
 obtain ⟨i, rfl⟩ := Int.eq_ofNat_of_zero_le h0;refine (itemId_calls w i (by omega)).mono ?_;rintro e w' ⟨rfl, h⟩;exact ⟨itS i, by simp [itS], rfl, h⟩
def Im4 (w : World) (b N base g n cap gk : Nat) (i : Value) (wr : World) : Prop :=
 ∃ (j : Nat) (xs : List Itm), 4 - j = gk ∧ j ≤ 4 ∧ i = .int .i64 (j : Int) ∧ (∀ x ∈ xs, ItG x) ∧ OwnI wr base g n cap xs ∧ Strm wr b (N + 2 * j) ∧ Mod (· = b) w wr
set_option maxHeartbeats 8000000 in
theorem items_callsG (w : World) (b N m : Nat) (mI : Int) (hmI : mI = (m : Int)) (hS : Strm w b N) (hN : N ≤ 600000000) (hm : m ≤ 20) (hE : ∀ W, Mod (· = b) w W → Env W) : Calls Tryz.prog 6 #[.pointer (some ⟨b, 0, none⟩), .int .i64 mI] w (ItemsPostG w b (N + 142 * m + 160) (m + 1)) := by
 obtain ⟨i0, hi0, hz0, hz1, hz2⟩ := info_parts info_item7;have HRI := Lib.hid (rightItems_callsG w b N m hS (by omega) hm hE);rw [← hmI] at HRI;have HMI := Lib.hid hmI;clear hmI;have hbl := hS.lt;clear hE hS
 go_enter Tryz.func6, Tryz.ntmps6
 go_wp2_with fail
 refine HRI.out.mono ?_;rintro e w1 ⟨v, xs, rfl, hxm, hxz, hown, hS1, m1⟩;clear HRI;have HXZ := Lib.hid hxz;clear hxz
 by_cases h0 : xs.length = 0
 ·have hform : ∃ A cap, v = .slice A 0 cap := by
   rw [h0] at hown
   rcases hown.2 with ⟨rfl, _⟩ | ⟨g, cap, cur, rfl, _⟩
   ·exact ⟨_, _, rfl⟩
   ·exact ⟨_, _, rfl⟩
  obtain ⟨A, cap, rfl⟩ := hform;have HOW := Lib.hid hown;clear hown h0
  go_wp2_with fail
  go_ret;exact ⟨_, xs, rfl, by omega, HXZ.out, HOW.out, hS1.more (by omega), m1⟩
 obtain ⟨g, cap, rfl, hg1, hg2, hcap, hcap2⟩ := own_form7 hown (by omega);have hownI : OwnI w1 w.heap.size g xs.length cap xs := hown;clear hown;obtain ⟨n, hn⟩ : ∃ n, xs.length = n := ⟨_, rfl⟩;rw [hn] at hownI hcap h0 hxm ⊢;have hn1 := Nat.le_of_eq hn;have hn2 := Nat.le_of_eq hn.symm
 have hn0 : (0 : Int) < (n : Int) := by omega
 clear hn h0
 go_wp2_with fail
 refine (flip_calls _ b _ _ hS1 (by omega) (by omega) (by omega)).mono ?_;rintro e w2 ⟨fl, rfl, hS2, hM2⟩;have own2 := hownI.mod hM2 (by omega);have m2 := m1.trans hM2
 have DONE : Hid (∀ (W : World) (zs : List Itm), (∀ x ∈ zs, ItG x) → OwnI W w.heap.size g n cap zs → Strm W b (N + 142 * m + 160) → Mod (· = b) w W → ItemsPostG w b (N + 142 * m + 160) (m + 1) (.returned (.slice (some ⟨g, 0, none⟩) n cap)) W) := Lib.hid (fun W zs h1 h2 h3 h4 => by
  have := h2.len
  exact ⟨_, zs, rfl, by omega, h1, by rw [this]; exact h2, h3, h4⟩)
 clear hS1 hownI m1 hM2
 cases fl
 ·go_wp2_with fail
  go_ret;exact DONE.out _ xs HXZ.out own2 (hS2.more (by omega)) m2
 go_wp2_with fail
 refine (next_calls _ b _ _ hS2 (by omega) (by omega) (by omega)).mono ?_;rintro e w3 ⟨kk, hk0, hk1, rfl, hS3, hM3⟩;obtain ⟨kk, rfl⟩ := Int.eq_ofNat_of_zero_le hk0;have own3 := own2.mod hM3 (by omega);have m3 := m2.trans hM3
 have hkn : kk < n := by omega
 have hkx : kk < xs.length := by omega
 clear hS2 own2 m2 hM3 hk0 hk1
 go_wp2_with fail
 refine (next_calls _ b _ _ hS3 (by omega) (by omega) (by omega)).mono ?_;rintro e w4 ⟨sw, hs0, hs1, rfl, hS4, hM4⟩;have own4 := own3.mod hM4 (by omega);have m4 := m3.trans hM4;clear hS3 own3 m3 hM4
 have i3 : (0 : Int) ≤ (kk : Int) := by omega
 have i4 : (kk : Int) < (n : Int) := by omega
 have hbg : b < g := by omega
 have hmg : w.heap.size ≤ g := by omega
 by_cases s0 : sw = 0
 ·subst s0
  have hmi1 : 1 ≤ mI := by have := HMI.out; omega
  have hmi2 : mI ≤ 20 := by have := HMI.out; omega
  clear HMI
  go_upto_region 11 with (fail)
  obtain ⟨N1, hN1⟩ : ∃ N1, N1 = N + 142 * m + 1 + 1 + 1 := ⟨_, rfl⟩;rw [← hN1] at hS4;have hN1a := Nat.le_of_eq hN1;have hN1b := Nat.le_of_eq hN1.symm;clear hN1;have hb4 := hS4.lt;have HGs := Lib.hid (show ∀ (D : Nat → Bool) (zzi : Nat) (zq zq' : World), (fun _ zq => (fun Z => ∃ zs : List Itm, zs.length = n ∧ (∀ x ∈ zs, ItG x) ∧ OwnI Z w.heap.size g n cap zs) zq) D zq → Mod (· = b) zq zq' → (fun _ zq => (fun Z => ∃ zs : List Itm, zs.length = n ∧ (∀ x ∈ zs, ItG x) ∧ OwnI Z w.heap.size g n cap zs) zq) (upd D zzi true) zq' from by intro D zzi zq zq' h hm; (obtain ⟨zs, h1, h2, h3⟩ := h; exact ⟨zs, h1, h2, h3.mod hm (by omega)⟩))
  refine wp_region_inv (by kernel_rfl) (by kernel_rfl) (InvF (R := Mod (· = b)) [.is (.slice (some ⟨g, 0, none⟩) n cap),
    .is (.int .i64 (kk : Int)),
    .is (.pointer (some ⟨b, 0, none⟩)),
    .is (.pointer (some ⟨b, 0, none⟩)),
    .is (.int .i64 mI),
    .val (fun zv => ∃ (k_5 : Int), zv = .int .i64 k_5 ∧ 0 ≤ k_5 ∧ k_5 < mI),
    .val (fun zv => ∃ (s_6 : Str), zv = .string ⟨s_6.toArray⟩ ∧ s_6.length ≤ 100),
    .is (.slice (some ⟨g, 0, none⟩) n cap),
    .is (.int .i64 (kk : Int)),
    .is (.pointer (some ⟨g, kk * 7, none⟩)),
    .is (.pointer (some ⟨g, kk * 7, none⟩)),
    .val (fun zv => ∃ (s_11 : Str), zv = .string ⟨s_11.toArray⟩ ∧ s_11.length ≤ 100),
    ⟨fun zv zw => ∃ (s_12 : Str) (sa_12 : Str) (g_12 : Nat), zv = .slice (some ⟨g_12, 0, none⟩) 3 3 ∧ s_12.length ≤ 100 ∧ sa_12.length ≤ 100 ∧ w4.heap.size ≤ g_12 ∧ Blk zw g_12 9 #[(.string { data := #[105, 122, 122] }), .string ⟨s_12.toArray⟩, .string ⟨sa_12.toArray⟩], (by rintro zv zw zx ⟨s_12, sa_12, g_12, rfl, c0, c1, c2, q0⟩ hm; exact ⟨s_12, sa_12, g_12, rfl, c0, c1, c2, (q0.modb hm (by omega))⟩), none, some 13⟩,
    .val (fun zv => ∃ (s_13 : Str), zv = .string ⟨s_13.toArray⟩ ∧ s_13.length ≤ 100),
    .is (.pointer (some ⟨g, kk * 7, none⟩)),
    .is (.pointer (some ⟨g, kk * 7 + 5, none⟩)),
    .any]
    (GB w (· = b) w4.heap.size b (N1) (fun D => (D 5).toNat + (D 13).toNat) (fun _ zq => (fun Z => ∃ zs : List Itm, zs.length = n ∧ (∀ x ∈ zs, ItG x) ∧ OwnI Z w.heap.size g n cap zs) zq))) (InvF.start (GB.start hS4 m4 (Nat.le_refl _) (⟨xs, by omega, HXZ.out, own4⟩))) ?_ ?_
  ·refine .cons ?_ (.cons ?_ (.cons ?_ (.cons ?_ (.cons ?_ (.cons ?_ (.cons ?_ (.cons ?_ (.cons ?_ (.cons ?_ (.cons ?_ (.cons ?_ (.cons ?_ (.cons ?_ (.cons ?_ (.cons ?_ (.cons ?_ .nil))))))))))))))))
   ·intro D V zw1 a hR hI K hK;obtain ⟨hS1, hM1, hB1, hG1⟩ := hI.1;obtain ⟨zs, hG1a, hG1b, hG1d⟩ := hG1;have ze5 := hR.frame.other (t := 5) (by kernel_rfl) rfl;rw [if_pos (by rfl)];go_simp;exact hK (.slice (some ⟨g, 0, none⟩) n cap) _ (hI.next hR (by kernel_rfl) (Mod.refl _ _) (GB.quiet hI.1 (Mod.refl _ _) (by have hn := hR.not; simp [upd, hn] <;> omega) (HGs.out D 0 zw1 zw1 (hI.1).g (Mod.refl _ _))) (upd_same V 0 _))
   ·intro D V zw1 a hR hI K hK;obtain ⟨hS1, hM1, hB1, hG1⟩ := hI.1;obtain ⟨zs, hG1a, hG1b, hG1d⟩ := hG1;have ze6 := hR.frame.other (t := 6) (by kernel_rfl) rfl;rw [if_pos (by rfl)];go_simp;exact hK (.int .i64 (kk : Int)) _ (hI.next hR (by kernel_rfl) (Mod.refl _ _) (GB.quiet hI.1 (Mod.refl _ _) (by have hn := hR.not; simp [upd, hn] <;> omega) (HGs.out D 1 zw1 zw1 (hI.1).g (Mod.refl _ _))) (upd_same V 1 _))
   ·intro D V zw1 a hR hI K hK;obtain ⟨hS1, hM1, hB1, hG1⟩ := hI.1;obtain ⟨zs, hG1a, hG1b, hG1d⟩ := hG1;have ze0 := hR.frame.other (t := 0) (by kernel_rfl) rfl;rw [if_pos (by rfl)];go_simp;exact hK (.pointer (some ⟨b, 0, none⟩)) _ (hI.next hR (by kernel_rfl) (Mod.refl _ _) (GB.quiet hI.1 (Mod.refl _ _) (by have hn := hR.not; simp [upd, hn] <;> omega) (HGs.out D 2 zw1 zw1 (hI.1).g (Mod.refl _ _))) (upd_same V 2 _))
   ·intro D V zw1 a hR hI K hK;obtain ⟨hS1, hM1, hB1, hG1⟩ := hI.1;obtain ⟨zs, hG1a, hG1b, hG1d⟩ := hG1;have ze0 := hR.frame.other (t := 0) (by kernel_rfl) rfl;rw [if_pos (by rfl)];go_simp;exact hK (.pointer (some ⟨b, 0, none⟩)) _ (hI.next hR (by kernel_rfl) (Mod.refl _ _) (GB.quiet hI.1 (Mod.refl _ _) (by have hn := hR.not; simp [upd, hn] <;> omega) (HGs.out D 3 zw1 zw1 (hI.1).g (Mod.refl _ _))) (upd_same V 3 _))
   ·intro D V zw1 a hR hI K hK;obtain ⟨hS1, hM1, hB1, hG1⟩ := hI.1;obtain ⟨zs, hG1a, hG1b, hG1d⟩ := hG1;have ze1 := hR.frame.other (t := 1) (by kernel_rfl) rfl;rw [if_pos (by rfl)];go_simp;exact hK (.int .i64 mI) _ (hI.next hR (by kernel_rfl) (Mod.refl _ _) (GB.quiet hI.1 (Mod.refl _ _) (by have hn := hR.not; simp [upd, hn] <;> omega) (HGs.out D 4 zw1 zw1 (hI.1).g (Mod.refl _ _))) (upd_same V 4 _))
   ·intro D V zw1 a hR hI K hK;obtain ⟨hS1, hM1, hB1, hG1⟩ := hI.1;obtain ⟨zs, hG1a, hG1b, hG1d⟩ := hG1;have zd3 := hR.pred 3 (by kernel_rfl);have zf3 : V 3 = .pointer (some ⟨b, 0, none⟩) := hI.2 3 zd3 rfl;have zd4 := hR.pred 4 (by kernel_rfl);have zf4 : V 4 = .int .i64 mI := hI.2 4 zd4 rfl;have ze48 := hR.frame.done (t := 48) (j := 3) (by kernel_rfl) hR.ok zd3;have ze49 := hR.frame.done (t := 49) (j := 4) (by kernel_rfl) hR.ok zd4;rw [if_pos (by rfl)];have := Bool.toNat_le (D 5);have := Bool.toNat_le (D 13)
    have hNB : N1 + ((D 5).toNat + (D 13).toNat) ≤ 1000000000 := by omega
    skip
    go_simp;refine (next_calls _ _ _ _ hS1 hNB (by omega) (by omega)).mono ?_;rintro e zw2 ⟨k_0, hk1, hk2, rfl, hS2, hm2⟩;exact hK (.int .i64 k_0) _ (hI.next hR (by kernel_rfl) hm2 (GB.asks hI.1 (fun _ h _ => h) hS2 hm2 (by have hn := hR.not; simp [upd, hn] <;> omega) (HGs.out D 5 _ _ (hI.1).g hm2)) (⟨k_0, upd_same V 5 _, hk1, hk2⟩))
   ·intro D V zw1 a hR hI K hK;obtain ⟨hS1, hM1, hB1, hG1⟩ := hI.1;obtain ⟨zs, hG1a, hG1b, hG1d⟩ := hG1;have zd5 := hR.pred 5 (by kernel_rfl);have zF5 : ∃ (k_5 : Int), V 5 = .int .i64 k_5 ∧ 0 ≤ k_5 ∧ k_5 < mI := hI.2 5 zd5 rfl;obtain ⟨k_5, zf5, c5_0, c5_1⟩ := zF5;have ze50 := hR.frame.done (t := 50) (j := 5) (by kernel_rfl) hR.ok zd5;rw [if_pos (by rfl)];have := Bool.toNat_le (D 5);have := Bool.toNat_le (D 13)
    have hNB : N1 + ((D 5).toNat + (D 13).toNat) ≤ 1000000000 := by omega
    skip
    go_simp;refine (itemIdZ_calls _ k_5 c5_0 (by omega)).mono ?_;rintro e zw2 ⟨s_0, hs, rfl, hm2⟩;exact hK (.string ⟨s_0.toArray⟩) _ (hI.next hR (by kernel_rfl) (Mod.of_pure hm2) (GB.quiet hI.1 hm2 (by have hn := hR.not; simp [upd, hn] <;> omega) (HGs.out D 6 _ _ (hI.1).g (Mod.of_pure hm2))) (⟨s_0, upd_same V 6 _, hs⟩))
   ·intro D V zw1 a hR hI K hK;obtain ⟨hS1, hM1, hB1, hG1⟩ := hI.1;obtain ⟨zs, hG1a, hG1b, hG1d⟩ := hG1;have ze5 := hR.frame.other (t := 5) (by kernel_rfl) rfl;rw [if_pos (by rfl)];go_simp;exact hK (.slice (some ⟨g, 0, none⟩) n cap) _ (hI.next hR (by kernel_rfl) (Mod.refl _ _) (GB.quiet hI.1 (Mod.refl _ _) (by have hn := hR.not; simp [upd, hn] <;> omega) (HGs.out D 7 zw1 zw1 (hI.1).g (Mod.refl _ _))) (upd_same V 7 _))
   ·intro D V zw1 a hR hI K hK;obtain ⟨hS1, hM1, hB1, hG1⟩ := hI.1;obtain ⟨zs, hG1a, hG1b, hG1d⟩ := hG1;have ze6 := hR.frame.other (t := 6) (by kernel_rfl) rfl;rw [if_pos (by rfl)];go_simp;exact hK (.int .i64 (kk : Int)) _ (hI.next hR (by kernel_rfl) (Mod.refl _ _) (GB.quiet hI.1 (Mod.refl _ _) (by have hn := hR.not; simp [upd, hn] <;> omega) (HGs.out D 8 zw1 zw1 (hI.1).g (Mod.refl _ _))) (upd_same V 8 _))
   ·intro D V zw1 a hR hI K hK;obtain ⟨hS1, hM1, hB1, hG1⟩ := hI.1;obtain ⟨zs, hG1a, hG1b, hG1d⟩ := hG1;have zd7 := hR.pred 7 (by kernel_rfl);have zf7 : V 7 = .slice (some ⟨g, 0, none⟩) n cap := hI.2 7 zd7 rfl;have zd8 := hR.pred 8 (by kernel_rfl);have zf8 : V 8 = .int .i64 (kk : Int) := hI.2 8 zd8 rfl;have ze52 := hR.frame.done (t := 52) (j := 7) (by kernel_rfl) hR.ok zd7;have ze53 := hR.frame.done (t := 53) (j := 8) (by kernel_rfl) hR.ok zd8;rw [if_pos (by rfl)];go_simp;exact hK (.pointer (some ⟨g, kk * 7, none⟩)) _ (hI.next hR (by kernel_rfl) (Mod.refl _ _) (GB.quiet hI.1 (Mod.refl _ _) (by have hn := hR.not; simp [upd, hn] <;> omega) (HGs.out D 9 zw1 zw1 (hI.1).g (Mod.refl _ _))) (upd_same V 9 _))
   ·intro D V zw1 a hR hI K hK;obtain ⟨hS1, hM1, hB1, hG1⟩ := hI.1;obtain ⟨zs, hG1a, hG1b, hG1d⟩ := hG1;have zd9 := hR.pred 9 (by kernel_rfl);have zf9 : V 9 = .pointer (some ⟨g, kk * 7, none⟩) := hI.2 9 zd9 rfl;have ze54 := hR.frame.done (t := 54) (j := 9) (by kernel_rfl) hR.ok zd9;rw [if_pos (by rfl)];go_simp;exact hK (.pointer (some ⟨g, kk * 7, none⟩)) _ (hI.next hR (by kernel_rfl) (Mod.refl _ _) (GB.quiet hI.1 (Mod.refl _ _) (by have hn := hR.not; simp [upd, hn] <;> omega) (HGs.out D 10 zw1 zw1 (hI.1).g (Mod.refl _ _))) (upd_same V 10 _))
   ·intro D V zw1 a hR hI K hK;obtain ⟨hS1, hM1, hB1, hG1⟩ := hI.1;obtain ⟨zs, hG1a, hG1b, hG1d⟩ := hG1;have zd10 := hR.pred 10 (by kernel_rfl);have zf10 : V 10 = .pointer (some ⟨g, kk * 7, none⟩) := hI.2 10 zd10 rfl;have ze55 := hR.frame.done (t := 55) (j := 10) (by kernel_rfl) hR.ok zd10
    have hkz : kk < zs.length := by omega
    have hcc := (hG1d.cells hkz).1;rw [if_pos (by rfl)];go_simp;exact hK (_) _ (hI.next hR (by kernel_rfl) (Mod.refl _ _) (GB.quiet hI.1 (Mod.refl _ _) (by have hn := hR.not; simp [upd, hn] <;> omega) (HGs.out D 11 zw1 zw1 (hI.1).g (Mod.refl _ _))) (⟨zs[kk].id, upd_same V 11 _, (hG1b _ (List.getElem_mem hkz)).1⟩))
   ·intro D V zw1 a hR hI K hK;obtain ⟨hS1, hM1, hB1, hG1⟩ := hI.1;obtain ⟨zs, hG1a, hG1b, hG1d⟩ := hG1;have zd6 := hR.pred 6 (by kernel_rfl);have zF6 : ∃ (s_6 : Str), V 6 = .string ⟨s_6.toArray⟩ ∧ s_6.length ≤ 100 := hI.2 6 zd6 rfl;obtain ⟨s_6, zf6, c6_0⟩ := zF6;have zd11 := hR.pred 11 (by kernel_rfl);have zF11 : ∃ (s_11 : Str), V 11 = .string ⟨s_11.toArray⟩ ∧ s_11.length ≤ 100 := hI.2 11 zd11 rfl;obtain ⟨s_11, zf11, c11_0⟩ := zF11;have ze51 := hR.frame.done (t := 51) (j := 6) (by kernel_rfl) hR.ok zd6;have ze56 := hR.frame.done (t := 56) (j := 11) (by kernel_rfl) hR.ok zd11;rw [if_pos (by rfl)];go_simp;exact hK (_) _ (hI.next hR (by kernel_rfl) ((Mod.refl _ _).alloc _) (GB.quiet hI.1 (pure_alloc _ _) (by have hn := hR.not; simp [upd, hn] <;> omega) (HGs.out D 12 _ _ (hI.1).g ((Mod.refl _ _).alloc _))) (⟨s_6, s_11, _, upd_same V 12 _, (by first | assumption | omega), (by first | assumption | omega), (by omega), (Blk.new _ _ _)⟩))
   ·intro D V zw1 a hR hI K hK;obtain ⟨hS1, hM1, hB1, hG1⟩ := hI.1;obtain ⟨zs, hG1a, hG1b, hG1d⟩ := hG1;have zd2 := hR.pred 2 (by kernel_rfl);have zf2 : V 2 = .pointer (some ⟨b, 0, none⟩) := hI.2 2 zd2 rfl;have zd12 := hR.pred 12 (by kernel_rfl);have zF12 : ∃ (s_12 : Str) (sa_12 : Str) (g_12 : Nat), V 12 = .slice (some ⟨g_12, 0, none⟩) 3 3 ∧ s_12.length ≤ 100 ∧ sa_12.length ≤ 100 ∧ w4.heap.size ≤ g_12 ∧ Blk zw1 g_12 9 #[(.string { data := #[105, 122, 122] }), .string ⟨s_12.toArray⟩, .string ⟨sa_12.toArray⟩] := hI.2 12 zd12 (by show (!D 13) = true; rw [hR.not]; rfl);obtain ⟨s_12, sa_12, g_12, zf12, c12_0, c12_1, c12_2, b12_0⟩ := zF12;have ze47 := hR.frame.done (t := 47) (j := 2) (by kernel_rfl) hR.ok zd2;have ze57 := hR.frame.done (t := 57) (j := 12) (by kernel_rfl) hR.ok zd12;rw [if_pos (by rfl)];have := Bool.toNat_le (D 5);have := Bool.toNat_le (D 13)
    have hNB : N1 + ((D 5).toNat + (D 13).toNat) ≤ 1000000000 := by omega
    skip
    go_simp;refine (someb_calls _ b _ _ _ _ [[105, 122, 122], s_12, sa_12] 100 rfl (le_cons (by decide) (le_cons c12_0 (le_cons c12_1 le_nil))) hS1 hNB b12_0 (by omega) (by simp) (by simp)).mono ?_;rintro e zw2 ⟨s_0, hs, rfl, hS2, hm2⟩;exact hK (.string ⟨s_0.toArray⟩) _ (hI.next hR (by kernel_rfl) hm2 (GB.asks hI.1 (fun _ h _ => h) hS2 hm2 (by have hn := hR.not; simp [upd, hn] <;> omega) (HGs.out D 13 _ _ (hI.1).g hm2)) (⟨s_0, upd_same V 13 _, hs⟩))
   ·intro D V zw1 a hR hI K hK;obtain ⟨hS1, hM1, hB1, hG1⟩ := hI.1;obtain ⟨zs, hG1a, hG1b, hG1d⟩ := hG1;have zd0 := hR.pred 0 (by kernel_rfl);have zf0 : V 0 = .slice (some ⟨g, 0, none⟩) n cap := hI.2 0 zd0 rfl;have zd1 := hR.pred 1 (by kernel_rfl);have zf1 : V 1 = .int .i64 (kk : Int) := hI.2 1 zd1 rfl;have ze45 := hR.frame.done (t := 45) (j := 0) (by kernel_rfl) hR.ok zd0;have ze46 := hR.frame.done (t := 46) (j := 1) (by kernel_rfl) hR.ok zd1;rw [if_pos (by rfl)];go_simp;exact hK (.pointer (some ⟨g, kk * 7, none⟩)) _ (hI.next hR (by kernel_rfl) (Mod.refl _ _) (GB.quiet hI.1 (Mod.refl _ _) (by have hn := hR.not; simp [upd, hn] <;> omega) (HGs.out D 14 zw1 zw1 (hI.1).g (Mod.refl _ _))) (upd_same V 14 _))
   ·intro D V zw1 a hR hI K hK;obtain ⟨hS1, hM1, hB1, hG1⟩ := hI.1;obtain ⟨zs, hG1a, hG1b, hG1d⟩ := hG1;have zd14 := hR.pred 14 (by kernel_rfl);have zf14 : V 14 = .pointer (some ⟨g, kk * 7, none⟩) := hI.2 14 zd14 rfl;have ze59 := hR.frame.done (t := 59) (j := 14) (by kernel_rfl) hR.ok zd14;rw [if_pos (by rfl)];go_simp;exact hK (.pointer (some ⟨g, kk * 7 + 5, none⟩)) _ (hI.next hR (by kernel_rfl) (Mod.refl _ _) (GB.quiet hI.1 (Mod.refl _ _) (by have hn := hR.not; simp [upd, hn] <;> omega) (HGs.out D 15 zw1 zw1 (hI.1).g (Mod.refl _ _))) (upd_same V 15 _))
   ·intro D V zw1 a hR hI K hK;obtain ⟨hS1, hM1, hB1, hG1⟩ := hI.1;obtain ⟨zs, hG1a, hG1b, hG1d⟩ := hG1;have zd15 := hR.pred 15 (by kernel_rfl);have zf15 : V 15 = .pointer (some ⟨g, kk * 7 + 5, none⟩) := hI.2 15 zd15 rfl;have zd13 := hR.pred 13 (by kernel_rfl);have zF13 : ∃ (s_13 : Str), V 13 = .string ⟨s_13.toArray⟩ ∧ s_13.length ≤ 100 := hI.2 13 zd13 rfl;obtain ⟨s_13, zf13, c13_0⟩ := zF13;have ze60 := hR.frame.done (t := 60) (j := 15) (by kernel_rfl) hR.ok zd15;have ze58 := hR.frame.done (t := 58) (j := 13) (by kernel_rfl) hR.ok zd13;rw [if_pos (by rfl)]
    have hkz : kk < zs.length := by omega
    have zy0 := hG1d.frozen (kk * 7 + 5);have zx0 := (hG1d.cells hkz).2.2.2.2.2.1;go_simp;refine hK undef _ (InvF.last ⟨(hS1.setR (by omega) _ _).more (by have hn := hR.not; simp [upd, hn] <;> omega), hM1.setR (by omega) _ _, (by simpa using hB1), ⟨_, (by simpa using hG1a), set_all hG1b ((hG1b _ (List.getElem_mem hkz)).par (s := s_13) (by omega)), hG1d.setPar hkz s_13⟩⟩ trivial ?_);intro k hk hDk hlv;have hkl := hR.lt k hDk;have hv := hI.2 k hDk (liveB_of hlv)
    match k, hk, hDk, hlv, hkl, hv with
    | 0, _, _, _, _, hv => exact hv
    | 1, _, _, _, _, hv => exact hv
    | 2, _, _, _, _, hv => exact hv
    | 3, _, _, _, _, hv => exact hv
    | 4, _, _, _, _, hv => exact hv
    | 5, _, _, _, _, hv => exact hv
    | 6, _, _, _, _, hv => exact hv
    | 7, _, _, _, _, hv => exact hv
    | 8, _, _, _, _, hv => exact hv
    | 9, _, _, _, _, hv => exact hv
    | 10, _, _, _, _, hv => exact hv
    | 11, _, _, _, _, hv => exact hv
    | 12, _, _, hlv, _, _ => exact absurd hlv (by show ¬ (!upd D 16 true 13) = true; rw [upd_ne _ _ (by omega), hR.pred 13 (by kernel_rfl)]; decide)
    | 13, _, _, _, _, hv => exact hv
    | 14, _, _, _, _, hv => exact hv
    | 15, _, _, _, _, hv => exact hv
    | 16, hk, _, _, _, _ => exact absurd rfl hk
    | k + 17, _, _, _, hkl, _ => exact absurd hkl (by simp)
  ·intro D V w5 hD hI;obtain ⟨hS1, hM1, hB1, hG1⟩ := hI.1;have hSx : Strm w5 b (N1 + 2) := hS1.more (by show _ ≤ _; have := Bool.toNat_le (D 5); have := Bool.toNat_le (D 13); omega);clear hS1;have hMx := hM1;clear hM1;have hBx := hB1;clear hB1;have hGx := hG1;clear hG1;have zf0 : V 0 = .slice (some ⟨g, 0, none⟩) n cap := hI.2 0 (hD 0 (by decide)) rfl;have zf1 : V 1 = .int .i64 (kk : Int) := hI.2 1 (hD 1 (by decide)) rfl;have zf2 : V 2 = .pointer (some ⟨b, 0, none⟩) := hI.2 2 (hD 2 (by decide)) rfl;have zf3 : V 3 = .pointer (some ⟨b, 0, none⟩) := hI.2 3 (hD 3 (by decide)) rfl;have zf4 : V 4 = .int .i64 mI := hI.2 4 (hD 4 (by decide)) rfl;have zF5 : ∃ (k_5 : Int), V 5 = .int .i64 k_5 ∧ 0 ≤ k_5 ∧ k_5 < mI := hI.2 5 (hD 5 (by decide)) rfl;obtain ⟨k_5, zf5, c5_0, c5_1⟩ := zF5;have zF6 : ∃ (s_6 : Str), V 6 = .string ⟨s_6.toArray⟩ ∧ s_6.length ≤ 100 := hI.2 6 (hD 6 (by decide)) rfl;obtain ⟨s_6, zf6, c6_0⟩ := zF6;have zf7 : V 7 = .slice (some ⟨g, 0, none⟩) n cap := hI.2 7 (hD 7 (by decide)) rfl;have zf8 : V 8 = .int .i64 (kk : Int) := hI.2 8 (hD 8 (by decide)) rfl;have zf9 : V 9 = .pointer (some ⟨g, kk * 7, none⟩) := hI.2 9 (hD 9 (by decide)) rfl;have zf10 : V 10 = .pointer (some ⟨g, kk * 7, none⟩) := hI.2 10 (hD 10 (by decide)) rfl;have zF11 : ∃ (s_11 : Str), V 11 = .string ⟨s_11.toArray⟩ ∧ s_11.length ≤ 100 := hI.2 11 (hD 11 (by decide)) rfl;obtain ⟨s_11, zf11, c11_0⟩ := zF11;have zF13 : ∃ (s_13 : Str), V 13 = .string ⟨s_13.toArray⟩ ∧ s_13.length ≤ 100 := hI.2 13 (hD 13 (by decide)) rfl;obtain ⟨s_13, zf13, c13_0⟩ := zF13;have zf14 : V 14 = .pointer (some ⟨g, kk * 7, none⟩) := hI.2 14 (hD 14 (by decide)) rfl;have zf15 : V 15 = .pointer (some ⟨g, kk * 7 + 5, none⟩) := hI.2 15 (hD 15 (by decide)) rfl;clear hI hD HGs;simp only [frAll, Act.put, List.setIfInBounds_toArray, List.set_cons_zero, List.set_cons_succ, Nat.zero_add, Nat.reduceAdd, zf0, zf1, zf2, zf3, zf4, zf5, zf6, zf7, zf8, zf9, zf10, zf11, zf13, zf14, zf15];clear zf0 zf1 zf2 zf3 zf4 zf5 zf6 zf7 zf8 zf9 zf10 zf11 zf13 zf14 zf15;generalize V 12 = u12;clear V D;obtain ⟨zs, _, hz, hz3⟩ := hGx;have HZ := Lib.hid hz;clear hz
   go_wp2_with fail
   go_ret;exact DONE.out _ zs HZ.out hz3 (hSx.more (by omega)) hMx
 have s0' : (sw == 0) = false := by simpa using s0
 by_cases s1 : sw = 1
 ·subst s1;obtain ⟨c0, c1, c2, c3, c4, c5, c6⟩ := own4.cells hkx;have HSI := Lib.hid (fun (W : World) (h : OwnI W w.heap.size g n cap xs) y => h.setItem hkx y);have HIZ := Lib.hid (HXZ.out _ (List.getElem_mem hkx)).1;have HIC := Lib.hid (fun W => item_callsG W b (N + 142 * m + 1 + 1 + 1) xs[kk].id);have HCC := Lib.hid (fun (W : World) (h : OwnI W w.heap.size g n cap xs) => h.cells hkx);have hidl := HIZ.out;generalize xs[kk].id = kid at *
  go_wp2_with fail
  refine (HIC.out _ hS4 (by omega) (by omega)).mono ?_;rintro e w5 ⟨z, hz, rfl, hS5, hM5⟩;have own5 := own4.mod hM5 (by omega);have m5 := m4.trans hM5;clear hS4 own4 m4 hM5 c0 c1 c2 c3 c4 c5 c6;obtain ⟨d0, d1, d2, d3, d4, d5, d6⟩ := HCC.out _ own5;have f0 := own5.frozen (kk * 7);have f1 := own5.frozen (kk * 7 + 1);have f2 := own5.frozen (kk * 7 + 2);have f3 := own5.frozen (kk * 7 + 3);have f4 := own5.frozen (kk * 7 + 4);have f5 := own5.frozen (kk * 7 + 5);have f6 := own5.frozen (kk * 7 + 6);have HO := Lib.hid (HSI.out _ own5 z);have HZ : Hid (∀ x ∈ xs.set kk z, ItG x) := Lib.hid (set_all HXZ.out hz);clear own5 HSI HIC HCC hz hidl HIZ;unfold itA
  go_wp2_with fail
  go_ret;exact DONE.out _ _ HZ.out HO.out ((((((((hS5.setR hbg _ _).setR hbg _ _).setR hbg _ _).setR hbg _ _).setR hbg _ _).setR hbg _ _).setR hbg _ _).more (by omega)) (((((((m5.setR hmg _ _).setR hmg _ _).setR hmg _ _).setR hmg _ _).setR hmg _ _).setR hmg _ _).setR hmg _ _)
 have s1' : (sw == 1) = false := by simpa using s1
 by_cases s2 : sw = 2
 ·subst s2
  have h0x : 0 < xs.length := by omega
  obtain ⟨c0, c1, c2, c3, c4, c5, c6⟩ := own4.cells h0x;simp only [Nat.zero_mul, Nat.zero_add] at c0 c1 c2 c3 c4 c5 c6
  have HZ : Hid (∀ x ∈ xs ++ [xs[0]], ItG x) := Lib.hid (fun y hy => by
   rcases List.mem_append.1 hy with hy | hy
   ·exact HXZ.out y hy
   ·rw [List.mem_singleton.1 hy]; exact HXZ.out _ (List.getElem_mem h0x))
  have HXV := Lib.hid (itV_snoc xs xs[0]);have HLN : Hid ((xs ++ [xs[0]]).length = n + 1) := Lib.hid (by simp; omega);unfold itC at HXV;generalize xs[0] = z at *
  have j0 : (0 : Int) < (n : Int) := by omega
  have own4' : w4.ownsRow w.heap.size 79 7 (.slice (some ⟨g, 0, none⟩) n cap) n (itV xs) := own4
  go_wp2_with (at_builtin; refine wpList_append_lies _ rfl _ _ _ rfl w.heap.size 79 i0 _ 7 96 Tryz.underlying26 hi0 hz0 hz1 hz2 rfl (by omega) (.slice (some ⟨g, 0, none⟩) n cap) n (itV xs) rfl (own4'.alloc _) ⟨w4.heap.size, 0, none⟩ 1 1 [.string ⟨z.id.toArray⟩, .string ⟨z.cust.toArray⟩, .int .i64 z.kind, .string ⟨z.name.toArray⟩, .int .i64 z.tm, .string ⟨z.par.toArray⟩, .string ⟨z.text.toArray⟩] rfl rfl (World.news_of_block (cs := #[.string ⟨z.id.toArray⟩, .string ⟨z.cust.toArray⟩, .int .i64 z.kind, .string ⟨z.name.toArray⟩, .int .i64 z.tm, .string ⟨z.par.toArray⟩, .string ⟨z.text.toArray⟩]) (t := 79) (fr := (0, 0)) (heap_alloc_new w4 _)) (by simp [Value.oneCell']) (by omega) (by simp [maxLen]; omega) (by omega) (by have := m4.size; simp; omega) (w4.heap.size + 1) (by simp) ?_; intro g5 cap5 w5 hown5 hgrow hat hlt5)
  go_ret;refine ⟨_, xs ++ [z], rfl, by rw [HLN.out]; omega, HZ.out, ?_, (hS4.alloc _ |>.mod (S := fun k => (Value.slice (some ⟨g, 0, none⟩) n cap).ownBlock = some k) ⟨hgrow.os, hgrow.tape, hgrow.output, hgrow.size, fun k hk hs => hgrow.block k hk (fun x => hs x.symm)⟩ (fun i hi hk => by have := own_block own4' i hk; omega)).more (by omega), (m4.alloc _).grown hgrow (fun k hk => .inr (by have := own_block own4' k hk; omega))⟩;rw [HXV.out, HLN.out]
  simpa using hown5
 have s2' : (sw == 2) = false := by simpa using s2
 by_cases s3 : sw = 3
 ·subst s3;have c2 := (own4.cells hkx).2.2.1;have HSI := Lib.hid (fun (W : World) (h : OwnI W w.heap.size g n cap xs) z => h.setKind hkx z);have HZ : Hid (∀ z, ∀ x ∈ xs.set kk { xs[kk] with kind := z }, ItG x) := Lib.hid (fun z => set_all HXZ.out ((HXZ.out _ (List.getElem_mem hkx)).kind z));have HCC := Lib.hid (fun (W : World) (h : OwnI W w.heap.size g n cap xs) => (h.cells hkx).2.2.1)
  go_wp2_with fail
  refine (odd_calls _ b _ _ _ hS4 (by omega) (by omega) (by omega) (by omega)).mono ?_;rintro e w5 ⟨z, _, _, rfl, hS5, hM5⟩;have own5 := own4.mod hM5 (by omega);have m5 := m4.trans hM5;have d2 := HCC.out _ own5;have f2 := own5.frozen (kk * 7 + 2);have HO := Lib.hid (HSI.out _ own5 z);have HZ2 := Lib.hid (HZ.out z);clear hS4 own4 m4 hM5 own5 HSI HCC HZ c2;generalize xs.set kk { xs[kk] with kind := z } = ys at *
  go_wp2_with fail
  go_ret;exact DONE.out _ _ HZ2.out HO.out ((hS5.setR hbg _ _).more (by omega)) (m5.setR hmg _ _)
 have s3' : (sw == 3) = false := by simpa using s3
 clear s0 s1 s2 s3 hkx hkn i3 i4;obtain ⟨base, hbase⟩ : ∃ base, base = w.heap.size := ⟨_, rfl⟩;rw [← hbase] at own4 DONE;clear hbase
 go_wp2_with fail
 go_loopg [24] 4 (fun gk i wr => Im4 w b (N + 142 * m + 3) base g n cap gk i wr)
 case atStart => exact ⟨0, xs, rfl, by omega, rfl, HXZ.out, own4, hS4.more (by omega), m4⟩
 case round =>
  clear HXZ own4 hS4 m4 hn1 hn2;obtain ⟨j, ys, rfl, hj, rfl, hyz, hown, hS, hmm⟩ := hrel;have hyl := hown.len
  by_cases hlt : j < 4
  ·have HYZ := Lib.hid hyz;clear hyz
   go_wp2_with fail
   refine (next_calls _ b _ _ hS (by omega) (by omega) (by omega)).mono ?_;rintro e w5 ⟨p, hp0, hp1, rfl, hS5, hM5⟩;obtain ⟨p, rfl⟩ := Int.eq_ofNat_of_zero_le hp0;have own5 := hown.mod hM5 (by omega);have m5 := hmm.trans hM5;clear hS hown hmm hM5
   go_wp2_with fail
   refine (next_calls _ b _ _ hS5 (by omega) (by omega) (by omega)).mono ?_;rintro e w6 ⟨q, hq0, hq1, rfl, hS6, hM6⟩;obtain ⟨q, rfl⟩ := Int.eq_ofNat_of_zero_le hq0;have own6 := own5.mod hM6 (by omega);have m6 := m5.trans hM6
   have hpy : p < ys.length := by omega
   have hqy : q < ys.length := by omega
   have c0 := (own6.cells hqy).1;have c1 := (own6.cells hpy).2.2.2.2.2.1;have c2 := own6.frozen (p * 7 + 5);have HO := Lib.hid (own6.setPar hpy ys[q].id);have HZ1 : Hid (∀ x ∈ ys.set p { ys[p] with par := ys[q].id }, ItG x) := Lib.hid (set_all HYZ.out ((HYZ.out _ (List.getElem_mem hpy)).par (by have := (HYZ.out _ (List.getElem_mem hqy)).1; omega)));clear hS5 own5 m5 hM6 own6 hp0 hq0 hyl HYZ;generalize ys.set p { ys[p] with par := ys[q].id } = y1 at *;generalize ys[q].id = qid at *;generalize ys[p].par = ppar at *
   have j1 : (0 : Int) ≤ (p : Int) := by omega
   have j3 : (0 : Int) ≤ (q : Int) := by omega
   go_wp2_with fail
   go_roundg (4 - (j + 1))
   case measure => omega
   case rel => exact ⟨j + 1, y1, rfl, by omega, by simp, HZ1.out, HO.out, (hS6.setR hbg _ _).more (by omega), m6.setR hmg _ _⟩
  ·obtain rfl : j = 4 := by omega
   have HYZ := Lib.hid hyz;clear hyz
   go_wp2_with fail
   go_ret;exact DONE.out _ ys HYZ.out hown (hS.more (by omega)) hmm
end Go.Proofs.YtgfgggeeoeppjaaGreatDoor
/- AnyId of the generators, where the quoted strings are not reached. -/
namespace Go.Proofs.YtgfgggeeoeppjaaGreatDoor
open Go.RowKit
set_option maxHeartbeats 2000000 in
theorem anyId_calls (w : World) (b N : Nat) (v : Value) (l : List Itm) (hS : Strm w b N) (hN : N ≤ 900000000) (hv : Its w v l) (hz : ∀ x ∈ l, ItB x) (hl : l.length ≤ 1000) : Calls Tryz.prog 8 #[.pointer (some ⟨b, 0, none⟩), v] w (StrB w b (N + 2) 100) := by
 have HZ := Lib.hid hz;have HV := Lib.hid hv;obtain ⟨A, n, c, rfl, _, _, hl2, _⟩ := hv
 have hln : l.length = n := by rw [itV_len] at hl2; omega
 subst hln;clear hl2 hz
 have HW : Hid (∀ W M, Strm W b M → M ≤ N + 1 → Mod (· = b) w W → Calls Tryz.prog 43 #[.pointer (some ⟨b, 0, none⟩), .slice (some ⟨W.heap.size, 0, none⟩) 3 3] (W.alloc (.cells #[.string ⟨#[105, 122, 122]⟩, .string ⟨#[]⟩, .string ⟨#[65]⟩] 9)) (StrB w b (N + 2) 100)) := Lib.hid (fun W M h1 h2 h3 => by
  have := h1.lt;refine (someb_calls _ b _ _ _ _ [[105, 122, 122], [], [65]] 3 rfl (by decide) (h1.alloc _) (by omega) (Blk.new _ _ _) (by omega) (by decide) (by decide)).mono ?_;rintro e w2 ⟨s, hs, rfl, hS2, hM2⟩
  exact ⟨s, by omega, rfl, hS2.more (by omega), (h3.alloc _).trans hM2⟩)
 by_cases h0 : l.length = 0
 ·have h0' : ((l.length : Int) == 0) = true := by simp [h0]
  have HS := Lib.hid (HW.out w N hS (by omega) (Mod.refl _ _));clear h0 HW hS
  go_enter Tryz.func8, Tryz.ntmps8
  go_wp2_with fail
  refine HS.out.mono ?_;rintro e w2 ⟨s, hs, rfl, h1, h2⟩
  go_wp2_with fail
  go_ret;exact ⟨s, hs, rfl, h1, h2⟩
 ·have h0' : ((l.length : Int) == 0) = false := by rw [beq_eq_false_iff_ne]; omega
  go_enter Tryz.func8, Tryz.ntmps8
  go_wp2_with fail
  refine (flip_calls _ b _ _ hS (by omega) (by omega) (by omega)).mono ?_;rintro e w1 ⟨fl, rfl, hS1, hM1⟩
  cases fl
  ·have HV1 := Lib.hid (HV.out.strm hS hM1 (by decide));clear HW hS
   go_wp2_with fail
   refine (next_calls _ b _ _ hS1 (by omega) (by omega) (by omega)).mono ?_;rintro e w2 ⟨k, hk0, hk1, rfl, hS2, hM2⟩;obtain ⟨k, rfl⟩ := Int.eq_ofNat_of_zero_le hk0
   have hkl : k < l.length := by omega
   have hv2 := HV1.out.strm hS1 hM2 (by decide);obtain ⟨A', n', c', he, _, _, hl2, hr⟩ := hv2
   injection he with he1 he2 he3
   subst he1 he2 he3;obtain ⟨g, off, rfl, hrow⟩ := hr (by omega);have q1 := (item_cells hrow hkl).1;have hid := (HZ.out _ (List.getElem_mem hkl)).1;have HM := Lib.hid (hM1.trans hM2);clear hl2 hr hrow hM1 hM2 hS1;generalize l[k].id = s at *
   go_wp2_with fail
   go_ret;exact ⟨s, hid, rfl, hS2, HM.out⟩
  ·have HS := Lib.hid (HW.out w1 _ hS1 (by omega) hM1);clear HW hS hS1 hM1
   go_wp2_with fail
   refine HS.out.mono ?_;rintro e w2 ⟨s, hs, rfl, h1, h2⟩
   go_wp2_with fail
   go_ret;exact ⟨s, hs, rfl, h1, h2⟩
end Go.Proofs.YtgfgggeeoeppjaaGreatDoor
/- The generator of decisions. -/
namespace Go.Proofs.YtgfgggeeoeppjaaGreatDoor
open Go.RowKit
def NbS (b : Nat) (v : Value) : Prop := ∀ g off n c, v = .slice (some ⟨g, off, none⟩) n c → 0 < n → g ≠ b
theorem Sl.nb {w : World} {e : TypeId} {size b N : Nat} {v : Value} {xs : List Value} (h : Sl w e size v xs) (hS : Strm w b N) (he : e ≠ 25) : NbS b v := by
 obtain ⟨A, n, c, rfl, _, _, _, h4⟩ := h;rintro g off n' c' hv hn
 injection hv with h1 h2 h3
 subst h2;obtain ⟨g2, o2, h5, hr⟩ := h4 hn;rw [h1] at h5
 injection h5 with h5
 injection h5 with h6
 subst h6;obtain ⟨_, _, _, _, hBs, _⟩ := hS;exact hr.ne hBs he
theorem Sl.modNb {w w' : World} {e : TypeId} {size b : Nat} {v : Value} {xs : List Value} (h : Sl w e size v xs) (hn : NbS b v) (hm : Mod (· = b) w w') : Sl w' e size v xs := by
 obtain ⟨A, n, c, rfl, h1, h2, h3, h4⟩ := h;refine ⟨A, n, c, rfl, h1, h2, h3, fun h0 => ?_⟩;obtain ⟨g, off, rfl, hr⟩ := h4 h0;exact ⟨g, off, rfl, hr.mod hm (hn g off n c rfl h0)⟩
section
variable {w w' : World} {b N g q : Nat} {v u : Value} {cs : List ChoR} {cells : Array Value}
end
def DecM (M K : Nat) (x : DecR) : Prop := -1099511627776 ≤ x.no ∧ x.no ≤ 1099511627776 ∧ -1099511627776 ≤ x.at_ ∧ x.at_ ≤ 1099511627776 ∧ x.rev.length ≤ 4 ∧ x.item.length ≤ 4 ∧ x.vals.length ≤ 4 ∧ ∀ c ∈ x.vals, ChoM M K c
theorem DecM.b {M K : Nat} {x : DecR} (h : DecM M K x) (h1 : M ≤ 1000) (h2 : K ≤ 100) : DecB x := by
 obtain ⟨a1, a2, a3, a4, a5, a6, a7, a8⟩ := h;exact ⟨a1, a2, a3, a4, by unfold StB; omega, by unfold StB; omega, by omega, fun c hc => (a8 c hc).b h1 h2⟩
section
variable {w w' : World} {b g8 : Nat} {x : DecR}
end
end Go.Proofs.YtgfgggeeoeppjaaGreatDoor
/- Two desks side by side. -/
namespace Go.Proofs.YtgfgggeeoeppjaaGreatDoor
open Go.RowKit
theorem dTake_ok {ids : List Str} {d : DskR} (h : DkOk ids d) (hb : d.bats.length ≤ 900) (rev : Str) (at_ most : Int) : DkOk ids (dTake d rev at_ most) := by
 have hm : ∀ s ∈ takL d.st most d.fams [], s ∈ ids := takL_mem _ _ (fun s h => absurd h (by simp)) h.fi
 have hl : (takL d.st most d.fams []).length ≤ 1000 := by
  have h1 := takL_len d.st most d.fams [];have h2 := h.fl;simp only [List.length_nil, Nat.zero_add] at h1
  omega
 refine ⟨h.nd, h.il, h.sl, h.fi, h.fl, h.fn, ?_, fun b hb2 => ?_, fun b hb2 => ?_, fun b hb2 => ?_⟩
 ·show (d.bats ++ _).length ≤ 1000
  simp; omega
 ·rcases List.mem_append.1 hb2 with h1 | h1
  ·exact h.inn b h1
  ·rw [List.mem_singleton.1 h1]; exact .inl rfl
 ·rcases List.mem_append.1 hb2 with h1 | h1
  ·exact h.bi b h1
  ·rw [List.mem_singleton.1 h1]; exact hm
 ·rcases List.mem_append.1 hb2 with h1 | h1
  ·exact h.bz b h1
  ·rw [List.mem_singleton.1 h1]; exact hl
theorem rtF_zero {d : DskR} {no at_ : Int} {done : List Str} (h : rtF d no at_ done = 0) : 0 ≤ at_ ∧ (no - 1).toNat < d.bats.length := by
 have h1 : rtE d no at_ = 0 := by
  unfold rtF at h
  by_cases e : rtE d no at_ = 0
  ·exact e
  ·rw [if_pos e] at h; exact absurd h e
 unfold rtE at h1
 by_cases a : inB no 1 (d.bats.length : Int) = false
 ·rw [if_pos a] at h1; cases h1
 rw [if_neg a] at h1
 by_cases b : (d.bats.getD (no - 1).toNat batN).2.2.1 ≠ -1
 ·rw [if_pos b] at h1; cases h1
 rw [if_neg b] at h1
 have hm : moE at_ = 0 := by
  by_cases c : moE at_ = 0
  ·exact c
  ·rw [if_pos c] at h1; exact absurd h1 c
 have ha : inB at_ 0 5761439 = true := by
  unfold moE at hm
  by_cases c : inB at_ 0 5761439 = true
  ·exact c
  ·rw [if_neg c] at hm; cases hm
 have a' : inB no 1 (d.bats.length : Int) = true := by simpa using a
 have h2 := (inB_true ha).1;have h3 := inB_true a'
 omega
theorem dRet_ok {ids : List Str} {d : DskR} (h : DkOk ids d) {no at_ : Int} {done : List Str} (h0 : rtF d no at_ done = 0) : DkOk ids (dRet d (no - 1).toNat (d.bats.getD (no - 1).toNat batN) at_ done) := by
 obtain ⟨ha, hi⟩ := rtF_zero h0
 have hm : d.bats.getD (no - 1).toNat batN ∈ d.bats := by unfold List.getD; rw [List.getElem?_eq_getElem hi]; exact List.getElem_mem hi
 generalize d.bats.getD (no - 1).toNat batN = bk at *;have hc : ∀ b ∈ d.bats.set (no - 1).toNat (inAt bk at_), b ∈ d.bats ∨ b = inAt bk at_ := fun b hb => List.mem_or_eq_of_mem_set hb;refine ⟨h.nd, h.il, h.sl, h.fi, h.fl, h.fn, ?_, fun b hb2 => ?_, fun b hb2 => ?_, fun b hb2 => ?_⟩
 ·show (d.bats.set _ _).length ≤ 1000
  rw [List.length_set]; exact h.bl
 ·rcases hc b hb2 with h1 | rfl
  ·exact h.inn b h1
  ·exact .inr ha
 ·rcases hc b hb2 with h1 | rfl
  ·exact h.bi b h1
  ·exact h.bi bk hm
 ·rcases hc b hb2 with h1 | rfl
  ·exact h.bz b h1
  ·exact h.bz bk hm
def DkS (g bm : Nat) (bo : Option Nat) (j : Nat) : Prop := j = g ∨ j = bm ∨ bo = some j
section
variable {W W' w1 w2 : World} {b g bm g' bm' N : Nat} {bo bo' bo1 bo1' : Option Nat} {ids : List Str} {d d0 d1 : DskR}
theorem DkP.own (h : DkP W g bm bo ids d) {j : Nat} (hj : bo = some j) : ∃ arr, W.heap[j]? = some (.cells arr 42 (0, 0)) := by
 obtain ⟨_, _, _, BA, bc, bts, _, _, _, _, h5, h6⟩ := h;exact own_heap h5.1 (by rw [h6]; exact hj)
theorem DkR.own (h : DkR W g bm bo ids d) {j : Nat} (hj : bo = some j) : ∃ arr, W.heap[j]? = some (.cells arr 42 (0, 0)) := by
 obtain ⟨_, _, _, BA, bc, bts, _, _, _, _, h5, h6⟩ := h;exact own_heap h5.1 (by rw [h6]; exact hj)
theorem ty_ne {i : Nat} {T U : TypeId} {arr arr2 : Array Value} {fr fr2 : Nat × Nat} (h1 : W.heap[i]? = some (.cells arr T fr)) (h2 : W.heap[i]? = some (.cells arr2 U fr2)) : T = U := by
 rw [h1] at h2
 injection h2 with h2
 injection h2
theorem DkP.ty (h : DkP W g bm bo ids d) {T : TypeId} (h1 : T ≠ 87) (h2 : T ≠ 42) {i : Nat} {arr : Array Value} {fr : Nat × Nat} (hi : W.heap[i]? = some (.cells arr T fr)) : ¬ DkS g bm bo i := fun hs => by
 rcases hs with rfl | rfl | hs
 ·obtain ⟨_, _, _, _, _, _, hb, _⟩ := h;exact blk_ty2 hb hi h1 rfl
 ·obtain ⟨_, _, _, _, _, _, _, _, _, hst, _⟩ := h;exact mapX_cells hst hi rfl
 ·obtain ⟨arr2, h3⟩ := h.own hs;exact h2 (ty_ne hi h3)
theorem DkR.ty (h : DkR W g bm bo ids d) {T : TypeId} (h1 : T ≠ 50) (h2 : T ≠ 42) {i : Nat} {arr : Array Value} {fr : Nat × Nat} (hi : W.heap[i]? = some (.cells arr T fr)) : ¬ DkS g bm bo i := fun hs => by
 rcases hs with rfl | rfl | hs
 ·obtain ⟨_, _, _, _, _, _, hb, _⟩ := h;exact blk_ty2 hb hi h1 rfl
 ·obtain ⟨_, _, _, _, _, _, _, _, _, hst, _⟩ := h;exact mapX_cells hst hi rfl
 ·obtain ⟨arr2, h3⟩ := h.own hs;exact h2 (ty_ne hi h3)
theorem DkP.blk (h : DkP W g bm bo ids d) : (∃ arr, W.heap[g]? = some (.cells arr 87 (0, 0))) ∧ ∃ es c, W.heap[bm]? = some (.map es c) := by
 obtain ⟨_, _, _, _, _, _, hb, _, _, hst, _⟩ := h;obtain ⟨D, ⟨es, clock, hm, _⟩, _⟩ := hst;exact ⟨⟨_, hb⟩, es, clock, hm⟩
theorem DkR.blk (h : DkR W g bm bo ids d) : (∃ arr, W.heap[g]? = some (.cells arr 50 (0, 0))) ∧ ∃ es c, W.heap[bm]? = some (.map es c) := by
 obtain ⟨_, _, _, _, _, _, hb, _, _, hst, _⟩ := h;obtain ⟨D, ⟨es, clock, hm, _⟩, _⟩ := hst;exact ⟨⟨_, hb⟩, es, clock, hm⟩
theorem DkR.past (h : DkR W g' bm' bo' ids d) (hP : DkP W g bm bo ids d0) (hm : Mod (DkS g bm bo) W W') (hbm : bm ≠ bm') (hbo : ∀ j, bo = some j → bo' ≠ some j) : DkR W' g' bm' bo' ids d := by
 obtain ⟨⟨ag, hg⟩, es, c, hmp⟩ := h.blk;obtain ⟨⟨ag2, hg2⟩, es2, c2, hmp2⟩ := hP.blk;refine h.mod hm (hP.ty (by decide) (by decide) hg) (fun hs => ?_) (fun j hj hs => ?_) (fun i arr fr hi => hP.ty (by decide) (by decide) hi) (fun i arr fr hi => hP.ty (by decide) (by decide) hi)
 ·rcases hs with rfl | h2 | hs
  ·rw [hmp] at hg2; cases hg2
  ·exact hbm h2.symm
  ·obtain ⟨arr2, h3⟩ := hP.own hs;rw [hmp] at h3; cases h3
 ·obtain ⟨arr, hh⟩ := h.own hj
  rcases hs with rfl | rfl | hs
  ·exact absurd (ty_ne hh hg2) (by decide)
  ·rw [hmp2] at hh; cases hh
  ·exact hbo j hs hj
theorem DkP.past (h : DkP W g bm bo ids d) (hR : DkR W g' bm' bo' ids d0) (hm : Mod (DkS g' bm' bo') W W') (hbm : bm ≠ bm') (hbo : ∀ j, bo = some j → bo' ≠ some j) : DkP W' g bm bo ids d := by
 obtain ⟨⟨ag, hg⟩, es, c, hmp⟩ := h.blk;obtain ⟨⟨ag2, hg2⟩, es2, c2, hmp2⟩ := hR.blk;refine h.mod hm (hR.ty (by decide) (by decide) hg) (fun hs => ?_) (fun j hj hs => ?_) (fun i arr fr hi => hR.ty (by decide) (by decide) hi) (fun i arr fr hi => hR.ty (by decide) (by decide) hi)
 ·rcases hs with rfl | h2 | hs
  ·rw [hmp] at hg2; cases hg2
  ·exact hbm h2
  ·obtain ⟨arr2, h3⟩ := hR.own hs;rw [hmp] at h3; cases h3
 ·obtain ⟨arr, hh⟩ := h.own hj
  rcases hs with rfl | rfl | hs
  ·exact absurd (ty_ne hh hg2) (by decide)
  ·rw [hmp2] at hh; cases hh
  ·exact hbo j hj hs
def Two (W : World) (b g bm g' bm' : Nat) (ids : List Str) (d : DskR) : Prop := ∃ bo bo' : Option Nat, DkP W g bm bo ids d ∧ DkR W g' bm' bo' ids d ∧ (∀ j, bo = some j → b < j ∧ bo' ≠ some j) ∧ ∀ j, bo' = some j → b < j
theorem Two.pure (h : Two W b g bm g' bm' ids d) (hm : Pure W W') : Two W' b g bm g' bm' ids d := by
 obtain ⟨bo, bo', h1, h2, h3, h4⟩ := h;exact ⟨bo, bo', h1.pure hm, h2.pure hm, h3, h4⟩
theorem Two.ask (h : Two W b g bm g' bm' ids d) (hS : Strm W b N) (hm : Mod (· = b) W W') (k1 : b < g) (k2 : b < bm) (k3 : b < g') (k4 : b < bm') : Two W' b g bm g' bm' ids d := by
 obtain ⟨bo, bo', h1, h2, h3, h4⟩ := h;obtain ⟨A, n, c, k, hb, _⟩ := hS;have hty : ∀ T, T ≠ 25 → ∀ i arr fr, W.heap[i]? = some (.cells arr T fr) → ¬ i = b := fun T hT i arr fr hi => blk_ty2 hb hi hT;exact ⟨bo, bo', h1.mod hm (by omega) (by omega) (fun j hj e => by have := (h3 j hj).1; omega) (hty _ (by decide)) (hty _ (by decide)), h2.mod hm (by omega) (by omega) (fun j hj e => by have := h4 j hj; omega) (hty _ (by decide)) (hty _ (by decide)), h3, h4⟩
theorem two_step (hP : DkP W g bm bo ids d) (hR : DkR W g' bm' bo' ids d) (h3 : ∀ j, bo = some j → b < j ∧ bo' ≠ some j) (h4 : ∀ j, bo' = some j → b < j) (hbm : bm ≠ bm') (hbl : b < W.heap.size)
  (p1 : DkP w1 g bm bo1 ids d1) (p2 : ∀ j, bo1 = some j → bo = some j ∨ W.heap.size ≤ j) (m1 : Mod (DkS g bm bo) W w1)
  (r1 : DkR w2 g' bm' bo1' ids d1) (r2 : ∀ j, bo1' = some j → bo' = some j ∨ w1.heap.size ≤ j) (m2 : Mod (DkS g' bm' bo') w1 w2) (hRw : DkR w1 g' bm' bo' ids d) : Two w2 b g bm g' bm' ids d1 := by
 have hs := m1.size
 have hbo : ∀ j, bo = some j → j < W.heap.size := fun j hj => by obtain ⟨a, h⟩ := hP.own hj; exact lt_of_heap h
 have hbo' : ∀ j, bo' = some j → j < W.heap.size := fun j hj => by obtain ⟨a, h⟩ := hR.own hj; exact lt_of_heap h
 have hbo1 : ∀ j, bo1 = some j → j < w1.heap.size := fun j hj => by obtain ⟨a, h⟩ := p1.own hj; exact lt_of_heap h
 have hdis : ∀ j, bo1 = some j → bo' ≠ some j := fun j hj hj' => by
  rcases p2 j hj with h | h
  ·exact (h3 j h).2 hj'
  ·have := hbo' j hj'; omega
 refine ⟨bo1, bo1', p1.past hRw m2 hbm hdis, r1, fun j hj => ⟨?_, fun hj' => ?_⟩, fun j hj => ?_⟩
 ·rcases p2 j hj with h | h
  ·exact (h3 j h).1
  ·omega
 ·rcases r2 j hj' with h | h
  ·exact hdis j hj h
  ·have := hbo1 j hj; omega
 ·rcases r2 j hj with h | h
  ·exact h4 j h
  ·omega
end
end Go.Proofs.YtgfgggeeoeppjaaGreatDoor
/-
 DERIVED: THE SHELF's CONTRACTS AT THIS DUMP, IN PLAIN WORDS (tools/lay-plain.mjs out of 'YtgfgggeeoeppjaaGreatDoorLayFie.lean', which tools/lay-shelf.mjs wrote): THE SAME DECLARATIONS UNDER THE SAME NAMES: 'import', 'namespace', 'open', 'def', 'theorem' AND NOTHING ELSE: no command of the shelf's: FOR A HAND-IN. Each laying: the table of numbers ('.._ren') and one theorem, a field a fact of the dump's own or the kernel's comparison; each contract: ONE APPLICATION.
-/
namespace Go.Proofs
open Go.Shelf
def Tryz.lays157_ren : Go.Shelf.Ren := ⟨fun | 157 => 157 | 229 => 187 | 199 => 188 | 261 => 239 | 311 => 265 | 312 => 266 | n => n, fun | 9 => 9 | 31 => 29 | 3 => 3 | 5 => 5 | 4 => 4 | 119 => 227 | 0 => 0 | 40 => 229 | 152 => 272 | 21 => 21 | 154 => 274 | 51 => 231 | 141 => 276 | 196 => 299 | 193 => 296 | 198 => 302 | 49 => 300 | 194 => 297 | 201 => 305 | 226 => 315 | 46 => 210 | 227 => 316 | n => n, fun | 0 => 1 | 6 => 4 | n => n⟩
theorem Tryz.lays157 : Go.Proofs.Lays.n157 Tryz.prog Tryz.lays157_ren := {
 mixed := by kernel_rfl
 f157 := Tryz.func157.trans (congrArg some (by kernel_rfl))
 f199 := Tryz.func188.trans (congrArg some (by kernel_rfl))
 f229 := Tryz.func187.trans (congrArg some (by kernel_rfl))
 f261 := Tryz.func239.trans (congrArg some (by kernel_rfl))
 f311 := Tryz.func265.trans (congrArg some (by kernel_rfl))
 f312 := Tryz.func266.trans (congrArg some (by kernel_rfl))
 t0 := Tryz.underlying0
 a0 := Tryz.isAgg0
 z0 := Tryz.sizeOf0
 v0 := Tryz.zeroValue0
 t3 := Tryz.underlying3
 a3 := Tryz.isAgg3
 z3 := Tryz.sizeOf3
 v3 := Tryz.zeroValue3
 t4 := Tryz.underlying4
 a4 := Tryz.isAgg4
 z4 := Tryz.sizeOf4
 v4 := Tryz.zeroValue4
 t5 := Tryz.underlying5
 a5 := Tryz.isAgg5
 z5 := Tryz.sizeOf5
 v5 := Tryz.zeroValue5
 t9 := Tryz.underlying9
 a9 := Tryz.isAgg9
 z9 := Tryz.sizeOf9
 v9 := Tryz.zeroValue9
 t21 := Tryz.underlying21
 a21 := Tryz.isAgg21
 z21 := Tryz.sizeOf21
 v21 := Tryz.zeroValue21
 t31 := Tryz.underlying29
 a31 := Tryz.isAgg29
 z31 := Tryz.sizeOf29
 v31 := Tryz.zeroValue29
 t40 := Tryz.underlying229
 a40 := Tryz.isAgg229
 z40 := Tryz.sizeOf229
 v40 := Tryz.zeroValue229
 t46 := Tryz.underlying210
 a46 := Tryz.isAgg210
 z46 := Tryz.sizeOf210
 v46 := Tryz.zeroValue210
 t49 := Tryz.underlying300
 a49 := Tryz.isAgg300
 z49 := Tryz.sizeOf300
 v49 := Tryz.zeroValue300
 t51 := Tryz.underlying231
 a51 := Tryz.isAgg231
 z51 := Tryz.sizeOf231
 v51 := Tryz.zeroValue231
 t119 := Tryz.underlying227
 a119 := Tryz.isAgg227
 z119 := Tryz.sizeOf227
 t141 := Tryz.underlying276
 a141 := Tryz.isAgg276
 z141 := Tryz.sizeOf276
 v141 := Tryz.zeroValue276
 t152 := Tryz.underlying272
 a152 := Tryz.isAgg272
 z152 := Tryz.sizeOf272
 v152 := Tryz.zeroValue272
 t154 := Tryz.underlying274
 a154 := Tryz.isAgg274
 z154 := Tryz.sizeOf274
 v154 := Tryz.zeroValue274
 t193 := Tryz.underlying296
 a193 := Tryz.isAgg296
 z193 := Tryz.sizeOf296
 v193 := Tryz.zeroValue296
 t194 := Tryz.underlying297
 a194 := Tryz.isAgg297
 z194 := Tryz.sizeOf297
 v194 := Tryz.zeroValue297
 t196 := Tryz.underlying299
 a196 := Tryz.isAgg299
 z196 := Tryz.sizeOf299
 v196 := Tryz.zeroValue299
 t198 := Tryz.underlying302
 a198 := Tryz.isAgg302
 z198 := Tryz.sizeOf302
 v198 := Tryz.zeroValue302
 t201 := Tryz.underlying305
 a201 := Tryz.isAgg305
 z201 := Tryz.sizeOf305
 v201 := Tryz.zeroValue305
 t226 := Tryz.underlying315
 a226 := Tryz.isAgg315
 z226 := Tryz.sizeOf315
 v226 := Tryz.zeroValue315
 t227 := Tryz.underlying316
 a227 := Tryz.isAgg316
 z227 := Tryz.sizeOf316
 v227 := Tryz.zeroValue316
 g0 := by kernel_rfl
 g6 := by kernel_rfl }
end Go.Proofs
/- The one line that the laws of reviews have read: its words, its field. -/
namespace Go.Proofs.YtgfgggeeoeppjaaGreatDoor
open Go.RowKit
def Asc (w : World) : Prop := Lib.TabIs Tryz.prog w "strings.asciiSpace" .u8 Lib.asciiSpaceTab
theorem asc_g : Tryz.prog.globalNamed "strings.asciiSpace" = some 1 := by kernel_rfl
theorem Asc.mod {w w' : World} {S : Nat → Prop} (h : Asc w) (hm : Mod S w w') (hs : ¬ S 1) : Asc w' := by
 unfold Asc Lib.TabIs World.var? at h ⊢;rw [asc_g] at h ⊢;simp only [Option.bind_some] at h ⊢
 cases hh : w.heap[1]? with
 | none => rw [hh] at h; cases h
 | some o =>
  rw [hm.block _ (lt_of_heap hh) hs];exact h
theorem Asc.pure {w w' : World} (h : Asc w) (hm : Pure w w') : Asc w' := h.mod hm id
def ws5 : List Str := [[97, 115, 107], [97], [111, 110, 101], [110, 111, 110, 101], [98]]
def sp3 : List Str := [wNone, wSame, wFamily]
theorem spreads_calls (w : World) (hA : Asc w) : Calls Tryz.prog 161 #[] w (fun e w' => e = .returned (.slice (some ⟨w.heap.size, 0, none⟩) 3 3) ∧ w' = w.alloc (.cells (strsV sp3).toArray 9)) := by
 have hall : ∀ b ∈ ([110, 111, 110, 101, 32, 115, 97, 109, 101, 32, 102, 97, 109, 105, 108, 121] : List UInt8), b.toNat < 128 := by decide
 have hf := Any.strings_Fields Tryz.lays157 info_strS asc_g ⟨#[110, 111, 110, 101, 32, 115, 97, 109, 101, 32, 102, 97, 109, 105, 108, 121]⟩ w (by decide) (fun j b hj => hall b (List.mem_of_getElem? hj)) hA
 have e1 : Lib.fields (⟨#[110, 111, 110, 101, 32, 115, 97, 109, 101, 32, 102, 97, 109, 105, 108, 121]⟩ : ByteArray).data.toList = sp3 := by decide +kernel
 rw [e1] at hf;have HF := Lib.hid hf;clear hf hA hall
 go_enter Tryz.func161, Tryz.ntmps161
 go_wp2_with fail
 refine HF.out.mono ?_;rintro e w1 ⟨rfl, rfl⟩
 go_wp2_with fail
 go_ret;exact ⟨rfl, rfl⟩
theorem blkSl3 {W : World} {g : Nat} {ss : List Str} (h : Blk W g 9 (strsV ss).toArray) (hl : ss.length ≤ 1000 := by decide) : Sl W 9 1 (.slice (some ⟨g, 0, none⟩) ss.length ss.length) (strsV ss) :=
 ⟨_, _, _, rfl, Nat.le_refl _, by omega, by simp [strsV], fun _ => ⟨g, 0, rfl, h.row0⟩⟩
def SlPost (w : World) (n : Nat) (ss : List Str) (e : Ending) (w' : World) : Prop := ∃ (A : Option Addr) (c : Nat), e = .returned (.slice A n c) ∧ Sl w' 9 1 (.slice A n c) (strsV ss) ∧ Pure w w'
theorem spreadsP_calls (w : World) (hA : Asc w) : Calls Tryz.prog 161 #[] w (SlPost w 3 sp3) := by
 refine (spreads_calls w hA).mono ?_;rintro e w' ⟨rfl, rfl⟩;exact ⟨_, _, rfl, blkSl3 (Blk.new _ _ _), (Mod.refl _ _).alloc _⟩
theorem spIndex_calls (w : World) (v : Value) (h : Sl w 9 1 v (strsV sp3)) : Calls Tryz.prog 77 #[v, .string ⟨#[110, 111, 110, 101]⟩] w (IntPost w 0) := by
 have := indexQs_calls w v sp3 wNone h;rw [show idxQ (fun x => wNone == x) sp3 0 = 0 by decide] at this;exact this
theorem cloneP_calls (w : World) (v : Value) (h : Sl w 9 1 v (strsV [[98]])) : Calls Tryz.prog 61 #[v] w (SlPost w 1 [[98]]) := by
 refine (cloneC_calls w v [[98]] h (by simp)).mono ?_;rintro e w' ⟨v', rfl, hown, hm⟩;have hs := Sl.of_own hown
 rcases hown.2 with ⟨_, h1⟩ | ⟨g', cap', cur, hv, _⟩
 ·cases h1
 ·subst hv;exact ⟨_, _, rfl, hs, hm⟩
theorem slTail {W : World} {g off c : Nat} (h : RowAt W 9 g off (strsV ws5)) (h1 : 5 ≤ c) (h2 : c ≤ 1000) : Sl W 9 1 (.slice (some ⟨g, off + 4, none⟩) 1 (c - 4)) (strsV [[98]]) := by
 obtain ⟨arr, fr, e1, e2⟩ := h;refine ⟨_, _, _, rfl, by omega, by omega, rfl, fun _ => ⟨g, off + 4, rfl, arr, fr, e1, fun i u hi => ?_⟩⟩
 have h0 : i = 0 := by
  rcases Nat.eq_zero_or_pos i with h | h
  ·exact h
  ·rw [List.getElem?_eq_none (by simp [strsV]; omega)] at hi
   cases hi
 subst h0;have h5 := e2 4 u hi
 simpa using h5
theorem blk_tyR {W : World} {g k : Nat} {t t' : TypeId} {cs arr : Array Value} {fr : Nat × Nat} (h : Blk W g t cs) (hk : W.heap[k]? = some (.cells arr t' fr)) (hne : t ≠ t') : ¬ k = g := fun e => by
 subst e;unfold Blk at h;rw [h] at hk
 injection hk with hk
 injection hk with _ h2 _
 exact hne h2
def AskLn (w : World) (e : Ending) (w' : World) : Prop := ∃ (A : Option Addr) (c : Nat), e = .returned (.tuple #[.agg #[.string ⟨#[97]⟩, .slice A 1 c, .bool false, .int .i64 0], .bool true]) ∧ Sl w' 9 1 (.slice A 1 c) (strsV [[98]]) ∧ Pure w w'
set_option maxHeartbeats 8000000 in
theorem askLine_calls (w : World) (g off c : Nat) (hr : RowAt w 9 g off (strsV ws5)) (h1 : 5 ≤ c) (h2 : c ≤ 1000) (hA : Asc w) : Calls Tryz.prog 107 #[.slice (some ⟨g, off, none⟩) 5 c] w (AskLn w) := by
 have HG := Lib.hid (Blk.new w 167 #[.string ⟨#[]⟩, .slice none 0 0, .bool false, .int .i64 0]);have hp := pure_alloc w (.cells #[.string ⟨#[]⟩, .slice none 0 0, .bool false, .int .i64 0] 167);have HP := Lib.hid hp;have hgrw : w.heap.size ≤ w.heap.size := Nat.le_refl _
 have hz1 : (w.alloc (.cells #[.string ⟨#[]⟩, .slice none 0 0, .bool false, .int .i64 0] 167)).heap.size = w.heap.size + 1 := by simp
 have HR := Lib.hid (hr.mod hp id);have HAS : Hid (∀ W, Pure (w.alloc (.cells #[.string ⟨#[]⟩, .slice none 0 0, .bool false, .int .i64 0] 167)) W → Asc W) := Lib.hid (fun W h => hA.pure (hp.trans h));have d0 := HR.out.cell (i := 0) (u := .string ⟨#[97, 115, 107]⟩) rfl;have d2 := HR.out.cell (i := 2) (u := .string ⟨#[111, 110, 101]⟩) rfl;rw [Nat.add_zero] at d0;clear hp hr hA
 go_enter Tryz.func107, Tryz.ntmps107
 go_upto_region 1 with (fail)
 generalize (w.alloc (.cells #[.string ⟨#[]⟩, .slice none 0 0, .bool false, .int .i64 0] 167)) = w1 at *;generalize hgr : w.heap.size = gr at *;have hgr2 := Nat.le_of_eq hgr;clear hgr
 go_upto_region 3 with (fail)
 have hn5 : (5 : Int) ≤ (c : Int) := by omega
 have HGs := Lib.hid (show ∀ (D : Nat → Bool) (zzi : Nat) (zq zq' : World), (fun _ zq => (fun Z => RowAt Z 9 g off (strsV ws5) ∧ Blk Z gr 167 #[.string ⟨#[]⟩, .slice none 0 0, .bool false, .int .i64 0]) zq) D zq → Mod (fun _ => False) zq zq' → (fun _ zq => (fun Z => RowAt Z 9 g off (strsV ws5) ∧ Blk Z gr 167 #[.string ⟨#[]⟩, .slice none 0 0, .bool false, .int .i64 0]) zq) (upd D zzi true) zq' from by intro D zzi zq zq' h hm; (exact ⟨h.1.mod hm _root_.id, h.2.modp hm⟩))
 refine wp_region_inv (by kernel_rfl) (by kernel_rfl) (InvF (R := Mod (fun _ => False)) [.is (.slice (some ⟨g, off, none⟩) 5 c),
   .is (.pointer (some ⟨g, off + 1, none⟩)),
   .is (.string ⟨#[97]⟩),
   .is (.slice (some ⟨g, off, none⟩) 5 c),
   .is (.pointer (some ⟨g, off + 2, none⟩)),
   .is (.string ⟨#[111, 110, 101]⟩),
   .is (.bool false),
   ⟨fun zv zw => ∃ (A_7 : Option Addr) (c_7 : Nat), zv = .slice A_7 3 c_7 ∧ Sl zw 9 1 (.slice A_7 3 c_7) (strsV sp3), (by rintro zv zw zx ⟨A_7, c_7, rfl, q0⟩ hm; exact ⟨A_7, c_7, rfl, (q0.pure hm)⟩), none, some 11⟩,
   .is (.slice (some ⟨g, off, none⟩) 5 c),
   .is (.pointer (some ⟨g, off + 3, none⟩)),
   .is (.string ⟨#[110, 111, 110, 101]⟩),
   .is (.int .i64 0),
   .is (.slice (some ⟨g, off, none⟩) 5 c),
   .is (.slice (some ⟨g, off + 4, none⟩) 1 (c - 4)),
   ⟨fun zv zw => ∃ (A_14 : Option Addr) (c_14 : Nat), zv = .slice A_14 1 c_14 ∧ Sl zw 9 1 (.slice A_14 1 c_14) (strsV [[98]]), (by rintro zv zw zx ⟨A_14, c_14, rfl, q0⟩ hm; exact ⟨A_14, c_14, rfl, (q0.pure hm)⟩), none, some 15⟩,
   ⟨fun zv zw => ∃ (A_15 : Option Addr) (c_15 : Nat), zv = .agg #[.string ⟨#[97]⟩, .slice A_15 1 c_15, .bool false, .int .i64 0] ∧ Sl zw 9 1 (.slice A_15 1 c_15) (strsV [[98]]), (by rintro zv zw zx ⟨A_15, c_15, rfl, q0⟩ hm; exact ⟨A_15, c_15, rfl, (q0.pure hm)⟩), none, some 17⟩,
   ⟨fun zv zw => ∃ (g_16 : Nat), zv = .pointer (some ⟨g_16, 0, none⟩) ∧ w1.heap.size ≤ g_16 ∧ Blk zw g_16 167 #[.string ⟨#[]⟩, .slice none 0 0, .bool false, .int .i64 0], (by rintro zv zw zx ⟨g_16, rfl, c0, q0⟩ hm; exact ⟨g_16, rfl, c0, (q0.modp hm)⟩), none, some 17⟩,
   ⟨fun zv zw => ∃ (g_17 : Nat) (A_17 : Option Addr) (c_17 : Nat), zv = .pointer (some ⟨g_17, 0, none⟩) ∧ w1.heap.size ≤ g_17 ∧ Blk zw g_17 167 #[.string ⟨#[97]⟩, .slice A_17 1 c_17, .bool false, .int .i64 0] ∧ Sl zw 9 1 (.slice A_17 1 c_17) (strsV [[98]]), (by rintro zv zw zx ⟨g_17, A_17, c_17, rfl, c0, q0, q1⟩ hm; exact ⟨g_17, A_17, c_17, rfl, c0, (q0.modp hm), (q1.pure hm)⟩), some 16, none⟩]
   (PB w1 (fun _ => False) w1.heap.size (fun _ zq => (fun Z => RowAt Z 9 g off (strsV ws5) ∧ Blk Z gr 167 #[.string ⟨#[]⟩, .slice none 0 0, .bool false, .int .i64 0]) zq))) (InvF.start (PB.start (Mod.refl _ _) (Nat.le_refl _) (⟨HR.out.mod ((Mod.refl (fun _ => False) _).drew) _root_.id, HG.out.drew⟩))) ?_ ?_
 ·refine .cons ?_ (.cons ?_ (.cons ?_ (.cons ?_ (.cons ?_ (.cons ?_ (.cons ?_ (.cons ?_ (.cons ?_ (.cons ?_ (.cons ?_ (.cons ?_ (.cons ?_ (.cons ?_ (.cons ?_ (.cons ?_ (.cons ?_ (.cons ?_ .nil)))))))))))))))))
  ·intro D V zw1 a hR hI K hK;obtain ⟨hM1, hB1, hG1⟩ := hI.1;have ze0 := hR.frame.other (t := 0) (by kernel_rfl) rfl;rw [if_pos (by rfl)];go_simp;exact hK (.slice (some ⟨g, off, none⟩) 5 c) _ (hI.next hR (by kernel_rfl) (Mod.refl _ _) (PB.quiet hI.1 (Mod.refl _ _) (HGs.out D 0 zw1 zw1 (hI.1).g (Mod.refl _ _))) (upd_same V 0 _))
  ·intro D V zw1 a hR hI K hK;obtain ⟨hM1, hB1, hG1⟩ := hI.1;have zd0 := hR.pred 0 (by kernel_rfl);have zf0 : V 0 = .slice (some ⟨g, off, none⟩) 5 c := hI.2 0 zd0 rfl;have ze27 := hR.frame.done (t := 27) (j := 0) (by kernel_rfl) hR.ok zd0;rw [if_pos (by rfl)];go_simp;exact hK (.pointer (some ⟨g, off + 1, none⟩)) _ (hI.next hR (by kernel_rfl) (Mod.refl _ _) (PB.quiet hI.1 (Mod.refl _ _) (HGs.out D 1 zw1 zw1 (hI.1).g (Mod.refl _ _))) (upd_same V 1 _))
  ·intro D V zw1 a hR hI K hK;obtain ⟨hM1, hB1, hG1⟩ := hI.1;have zd1 := hR.pred 1 (by kernel_rfl);have zf1 : V 1 = .pointer (some ⟨g, off + 1, none⟩) := hI.2 1 zd1 rfl;have ze28 := hR.frame.done (t := 28) (j := 1) (by kernel_rfl) hR.ok zd1;have zx0 := hG1.1.cell (i := 1) (u := .string ⟨#[97]⟩) rfl;rw [if_pos (by rfl)];go_simp;exact hK (.string ⟨#[97]⟩) _ (hI.next hR (by kernel_rfl) (Mod.refl _ _) (PB.quiet hI.1 (Mod.refl _ _) (HGs.out D 2 zw1 zw1 (hI.1).g (Mod.refl _ _))) (upd_same V 2 _))
  ·intro D V zw1 a hR hI K hK;obtain ⟨hM1, hB1, hG1⟩ := hI.1;have ze0 := hR.frame.other (t := 0) (by kernel_rfl) rfl;rw [if_pos (by rfl)];go_simp;exact hK (.slice (some ⟨g, off, none⟩) 5 c) _ (hI.next hR (by kernel_rfl) (Mod.refl _ _) (PB.quiet hI.1 (Mod.refl _ _) (HGs.out D 3 zw1 zw1 (hI.1).g (Mod.refl _ _))) (upd_same V 3 _))
  ·intro D V zw1 a hR hI K hK;obtain ⟨hM1, hB1, hG1⟩ := hI.1;have zd3 := hR.pred 3 (by kernel_rfl);have zf3 : V 3 = .slice (some ⟨g, off, none⟩) 5 c := hI.2 3 zd3 rfl;have ze30 := hR.frame.done (t := 30) (j := 3) (by kernel_rfl) hR.ok zd3;rw [if_pos (by rfl)];go_simp;exact hK (.pointer (some ⟨g, off + 2, none⟩)) _ (hI.next hR (by kernel_rfl) (Mod.refl _ _) (PB.quiet hI.1 (Mod.refl _ _) (HGs.out D 4 zw1 zw1 (hI.1).g (Mod.refl _ _))) (upd_same V 4 _))
  ·intro D V zw1 a hR hI K hK;obtain ⟨hM1, hB1, hG1⟩ := hI.1;have zd4 := hR.pred 4 (by kernel_rfl);have zf4 : V 4 = .pointer (some ⟨g, off + 2, none⟩) := hI.2 4 zd4 rfl;have ze31 := hR.frame.done (t := 31) (j := 4) (by kernel_rfl) hR.ok zd4;have zx0 := hG1.1.cell (i := 2) (u := .string ⟨#[111, 110, 101]⟩) rfl;rw [if_pos (by rfl)];go_simp;exact hK (.string ⟨#[111, 110, 101]⟩) _ (hI.next hR (by kernel_rfl) (Mod.refl _ _) (PB.quiet hI.1 (Mod.refl _ _) (HGs.out D 5 zw1 zw1 (hI.1).g (Mod.refl _ _))) (upd_same V 5 _))
  ·intro D V zw1 a hR hI K hK;obtain ⟨hM1, hB1, hG1⟩ := hI.1;have zd5 := hR.pred 5 (by kernel_rfl);have zf5 : V 5 = .string ⟨#[111, 110, 101]⟩ := hI.2 5 zd5 rfl;have ze32 := hR.frame.done (t := 32) (j := 5) (by kernel_rfl) hR.ok zd5;rw [if_pos (by rfl)];go_simp;exact hK (.bool false) _ (hI.next hR (by kernel_rfl) (Mod.refl _ _) (PB.quiet hI.1 (Mod.refl _ _) (HGs.out D 6 zw1 zw1 (hI.1).g (Mod.refl _ _))) (upd_same V 6 _))
  ·intro D V zw1 a hR hI K hK;obtain ⟨hM1, hB1, hG1⟩ := hI.1;rw [if_pos (by rfl)];go_simp;refine (spreadsP_calls _ (HAS.out _ hM1)).mono ?_;rintro e zw2 ⟨A_0, c_0, rfl, hsl, hm2⟩;exact hK (.slice A_0 3 c_0) _ (hI.next hR (by kernel_rfl) hm2 (PB.quiet hI.1 hm2 (HGs.out D 7 _ _ (hI.1).g hm2)) (⟨A_0, c_0, upd_same V 7 _, hsl⟩))
  ·intro D V zw1 a hR hI K hK;obtain ⟨hM1, hB1, hG1⟩ := hI.1;have ze0 := hR.frame.other (t := 0) (by kernel_rfl) rfl;rw [if_pos (by rfl)];go_simp;exact hK (.slice (some ⟨g, off, none⟩) 5 c) _ (hI.next hR (by kernel_rfl) (Mod.refl _ _) (PB.quiet hI.1 (Mod.refl _ _) (HGs.out D 8 zw1 zw1 (hI.1).g (Mod.refl _ _))) (upd_same V 8 _))
  ·intro D V zw1 a hR hI K hK;obtain ⟨hM1, hB1, hG1⟩ := hI.1;have zd8 := hR.pred 8 (by kernel_rfl);have zf8 : V 8 = .slice (some ⟨g, off, none⟩) 5 c := hI.2 8 zd8 rfl;have ze35 := hR.frame.done (t := 35) (j := 8) (by kernel_rfl) hR.ok zd8;rw [if_pos (by rfl)];go_simp;exact hK (.pointer (some ⟨g, off + 3, none⟩)) _ (hI.next hR (by kernel_rfl) (Mod.refl _ _) (PB.quiet hI.1 (Mod.refl _ _) (HGs.out D 9 zw1 zw1 (hI.1).g (Mod.refl _ _))) (upd_same V 9 _))
  ·intro D V zw1 a hR hI K hK;obtain ⟨hM1, hB1, hG1⟩ := hI.1;have zd9 := hR.pred 9 (by kernel_rfl);have zf9 : V 9 = .pointer (some ⟨g, off + 3, none⟩) := hI.2 9 zd9 rfl;have ze36 := hR.frame.done (t := 36) (j := 9) (by kernel_rfl) hR.ok zd9;have zx0 := hG1.1.cell (i := 3) (u := .string ⟨#[110, 111, 110, 101]⟩) rfl;rw [if_pos (by rfl)];go_simp;exact hK (.string ⟨#[110, 111, 110, 101]⟩) _ (hI.next hR (by kernel_rfl) (Mod.refl _ _) (PB.quiet hI.1 (Mod.refl _ _) (HGs.out D 10 zw1 zw1 (hI.1).g (Mod.refl _ _))) (upd_same V 10 _))
  ·intro D V zw1 a hR hI K hK;obtain ⟨hM1, hB1, hG1⟩ := hI.1;have zd7 := hR.pred 7 (by kernel_rfl);have zF7 : ∃ (A_7 : Option Addr) (c_7 : Nat), V 7 = .slice A_7 3 c_7 ∧ Sl zw1 9 1 (.slice A_7 3 c_7) (strsV sp3) := hI.2 7 zd7 (by show (!D 11) = true; rw [hR.not]; rfl);obtain ⟨A_7, c_7, zf7, b7_0⟩ := zF7;have zd10 := hR.pred 10 (by kernel_rfl);have zf10 : V 10 = .string ⟨#[110, 111, 110, 101]⟩ := hI.2 10 zd10 rfl;have ze34 := hR.frame.done (t := 34) (j := 7) (by kernel_rfl) hR.ok zd7;have ze37 := hR.frame.done (t := 37) (j := 10) (by kernel_rfl) hR.ok zd10;rw [if_pos (by rfl)];go_simp;refine (spIndex_calls _ _ b7_0).mono ?_;rintro e zw2 ⟨rfl, hm2⟩;exact hK (.int .i64 0) _ (hI.next hR (by kernel_rfl) hm2 (PB.quiet hI.1 hm2 (HGs.out D 11 _ _ (hI.1).g hm2)) (upd_same V 11 _))
  ·intro D V zw1 a hR hI K hK;obtain ⟨hM1, hB1, hG1⟩ := hI.1;have ze0 := hR.frame.other (t := 0) (by kernel_rfl) rfl;rw [if_pos (by rfl)];go_simp;exact hK (.slice (some ⟨g, off, none⟩) 5 c) _ (hI.next hR (by kernel_rfl) (Mod.refl _ _) (PB.quiet hI.1 (Mod.refl _ _) (HGs.out D 12 zw1 zw1 (hI.1).g (Mod.refl _ _))) (upd_same V 12 _))
  ·intro D V zw1 a hR hI K hK;obtain ⟨hM1, hB1, hG1⟩ := hI.1;have zd12 := hR.pred 12 (by kernel_rfl);have zf12 : V 12 = .slice (some ⟨g, off, none⟩) 5 c := hI.2 12 zd12 rfl;have ze39 := hR.frame.done (t := 39) (j := 12) (by kernel_rfl) hR.ok zd12
   have zc4 : ¬ c = 4 := by omega
   rw [if_pos (by rfl)];go_simp;exact hK (.slice (some ⟨g, off + 4, none⟩) 1 (c - 4)) _ (hI.next hR (by kernel_rfl) (Mod.refl _ _) (PB.quiet hI.1 (Mod.refl _ _) (HGs.out D 13 zw1 zw1 (hI.1).g (Mod.refl _ _))) (upd_same V 13 _))
  ·intro D V zw1 a hR hI K hK;obtain ⟨hM1, hB1, hG1⟩ := hI.1;have zd13 := hR.pred 13 (by kernel_rfl);have zf13 : V 13 = .slice (some ⟨g, off + 4, none⟩) 1 (c - 4) := hI.2 13 zd13 rfl;have ze40 := hR.frame.done (t := 40) (j := 13) (by kernel_rfl) hR.ok zd13;rw [if_pos (by rfl)];go_simp;refine (cloneP_calls _ _ (slTail hG1.1 h1 h2)).mono ?_;rintro e zw2 ⟨A_0, c_0, rfl, hsl, hm2⟩;exact hK (.slice A_0 1 c_0) _ (hI.next hR (by kernel_rfl) hm2 (PB.quiet hI.1 hm2 (HGs.out D 14 _ _ (hI.1).g hm2)) (⟨A_0, c_0, upd_same V 14 _, hsl⟩))
  ·intro D V zw1 a hR hI K hK;obtain ⟨hM1, hB1, hG1⟩ := hI.1;have zd2 := hR.pred 2 (by kernel_rfl);have zf2 : V 2 = .string ⟨#[97]⟩ := hI.2 2 zd2 rfl;have zd6 := hR.pred 6 (by kernel_rfl);have zf6 : V 6 = .bool false := hI.2 6 zd6 rfl;have zd11 := hR.pred 11 (by kernel_rfl);have zf11 : V 11 = .int .i64 0 := hI.2 11 zd11 rfl;have zd14 := hR.pred 14 (by kernel_rfl);have zF14 : ∃ (A_14 : Option Addr) (c_14 : Nat), V 14 = .slice A_14 1 c_14 ∧ Sl zw1 9 1 (.slice A_14 1 c_14) (strsV [[98]]) := hI.2 14 zd14 (by show (!D 15) = true; rw [hR.not]; rfl);obtain ⟨A_14, c_14, zf14, b14_0⟩ := zF14;have ze29 := hR.frame.done (t := 29) (j := 2) (by kernel_rfl) hR.ok zd2;have ze33 := hR.frame.done (t := 33) (j := 6) (by kernel_rfl) hR.ok zd6;have ze38 := hR.frame.done (t := 38) (j := 11) (by kernel_rfl) hR.ok zd11;have ze41 := hR.frame.done (t := 41) (j := 14) (by kernel_rfl) hR.ok zd14;rw [if_pos (by rfl)];go_simp;exact hK (_) _ (hI.next hR (by kernel_rfl) (Mod.refl _ _) (PB.quiet hI.1 (Mod.refl _ _) (HGs.out D 15 zw1 zw1 (hI.1).g (Mod.refl _ _))) (⟨A_14, c_14, upd_same V 15 _, b14_0⟩))
  ·intro D V zw1 a hR hI K hK;obtain ⟨hM1, hB1, hG1⟩ := hI.1;rw [if_pos (by rfl)];go_simp;exact hK (_) _ (hI.next hR (by kernel_rfl) ((Mod.refl _ _).alloc _) (PB.quiet hI.1 (pure_alloc _ _) (HGs.out D 16 _ _ (hI.1).g ((Mod.refl _ _).alloc _))) (⟨_, upd_same V 16 _, (by omega), (Blk.new _ _ _)⟩))
  ·intro D V zw1 a hR hI K hK;obtain ⟨hM1, hB1, hG1⟩ := hI.1;have zd16 := hR.pred 16 (by kernel_rfl);have zF16 : ∃ (g_16 : Nat), V 16 = .pointer (some ⟨g_16, 0, none⟩) ∧ w1.heap.size ≤ g_16 ∧ Blk zw1 g_16 167 #[.string ⟨#[]⟩, .slice none 0 0, .bool false, .int .i64 0] := hI.2 16 zd16 (by show (!D 17) = true; rw [hR.not]; rfl);obtain ⟨g_16, zf16, c16_0, b16_0⟩ := zF16;have zd15 := hR.pred 15 (by kernel_rfl);have zF15 : ∃ (A_15 : Option Addr) (c_15 : Nat), V 15 = .agg #[.string ⟨#[97]⟩, .slice A_15 1 c_15, .bool false, .int .i64 0] ∧ Sl zw1 9 1 (.slice A_15 1 c_15) (strsV [[98]]) := hI.2 15 zd15 (by show (!D 17) = true; rw [hR.not]; rfl);obtain ⟨A_15, c_15, zf15, b15_0⟩ := zF15;have ze4 := hR.frame.done (t := 4) (j := 16) (by kernel_rfl) hR.ok zd16;have ze42 := hR.frame.done (t := 42) (j := 15) (by kernel_rfl) hR.ok zd15;rw [if_pos (by rfl)];have zx0 := b16_0.cell 0; have zx1 := b16_0.cell 1; have zx2 := b16_0.cell 2; have zx3 := b16_0.cell 3;have zy0 := b16_0.frozen 0; have zy1 := b16_0.frozen 1; have zy2 := b16_0.frozen 2; have zy3 := b16_0.frozen 3;simp at zx0 zx1 zx2 zx3;have hB5 := (((b16_0.set 0 (.string ⟨#[97]⟩)).set 1 (.slice A_15 1 c_15)).set 2 (.bool false)).set 3 (.int .i64 0)
   have hgl : g < g_16 := by have := HR.out.lt; omega
   have hgrl : gr < g_16 := by have := HG.out.lt; omega
   have hmm : Mod (· = g_16) zw1 ((((zw1.setCell ⟨g_16, 0, none⟩ (.string ⟨#[97]⟩)).setCell ⟨g_16, 1, none⟩ (.slice A_15 1 c_15)).setCell ⟨g_16, 2, none⟩ (.bool false)).setCell ⟨g_16, 3, none⟩ (.int .i64 0)) := ((((Mod.refl (· = g_16) zw1).setCell (.inl rfl) _).setCell (.inl rfl) _).setCell (.inl rfl) _).setCell (.inl rfl) _;have hS5 := b15_0.mod hmm (fun k arr fr hk => blk_tyR b16_0 hk (by decide));go_simp;refine hK undef _ (InvF.last ⟨hM1.trans' hmm (fun i hi hlt => by omega), (by simpa using hB1), ⟨hG1.1.mod hmm (by omega), hG1.2.mod hmm (by omega)⟩⟩ ⟨g_16, A_15, c_15, (upd_ne V (i := 17) (k := 16) undef (by omega)).trans zf16, (by omega), (by simpa using hB5), hS5⟩ ?_);intro k hk hDk hlv;have hkl := hR.lt k hDk;have hv := hI.2 k hDk (liveB_of hlv)
   match k, hk, hDk, hlv, hkl, hv with
   | 0, _, _, _, _, hv => exact hv
   | 1, _, _, _, _, hv => exact hv
   | 2, _, _, _, _, hv => exact hv
   | 3, _, _, _, _, hv => exact hv
   | 4, _, _, _, _, hv => exact hv
   | 5, _, _, _, _, hv => exact hv
   | 6, _, _, _, _, hv => exact hv
   | 7, _, _, hlv, _, _ => exact absurd hlv (by show ¬ (!upd D 17 true 11) = true; rw [upd_ne _ _ (by omega), hR.pred 11 (by kernel_rfl)]; decide)
   | 8, _, _, _, _, hv => exact hv
   | 9, _, _, _, _, hv => exact hv
   | 10, _, _, _, _, hv => exact hv
   | 11, _, _, _, _, hv => exact hv
   | 12, _, _, _, _, hv => exact hv
   | 13, _, _, _, _, hv => exact hv
   | 14, _, _, hlv, _, _ => exact absurd hlv (by show ¬ (!upd D 17 true 15) = true; rw [upd_ne _ _ (by omega), hR.pred 15 (by kernel_rfl)]; decide)
   | 15, _, _, hlv, _, _ => exact absurd hlv (by show ¬ (!upd D 17 true 17) = true; rw [upd_same]; decide)
   | 16, _, _, hlv, _, _ => exact absurd hlv (by show ¬ (!upd D 17 true 17) = true; rw [upd_same]; decide)
   | 17, hk, _, _, _, _ => exact absurd rfl hk
   | k + 18, _, _, _, hkl, _ => exact absurd hkl (by simp)
 ·intro D V w2 hD hI;obtain ⟨hM1, hB1, hG1⟩ := hI.1;have hMx := hM1;clear hM1;have hBx := hB1;clear hB1;have hGx := hG1;clear hG1;have zf0 : V 0 = .slice (some ⟨g, off, none⟩) 5 c := hI.2 0 (hD 0 (by decide)) rfl;have zf1 : V 1 = .pointer (some ⟨g, off + 1, none⟩) := hI.2 1 (hD 1 (by decide)) rfl;have zf2 : V 2 = .string ⟨#[97]⟩ := hI.2 2 (hD 2 (by decide)) rfl;have zf3 : V 3 = .slice (some ⟨g, off, none⟩) 5 c := hI.2 3 (hD 3 (by decide)) rfl;have zf4 : V 4 = .pointer (some ⟨g, off + 2, none⟩) := hI.2 4 (hD 4 (by decide)) rfl;have zf5 : V 5 = .string ⟨#[111, 110, 101]⟩ := hI.2 5 (hD 5 (by decide)) rfl;have zf6 : V 6 = .bool false := hI.2 6 (hD 6 (by decide)) rfl;have zf8 : V 8 = .slice (some ⟨g, off, none⟩) 5 c := hI.2 8 (hD 8 (by decide)) rfl;have zf9 : V 9 = .pointer (some ⟨g, off + 3, none⟩) := hI.2 9 (hD 9 (by decide)) rfl;have zf10 : V 10 = .string ⟨#[110, 111, 110, 101]⟩ := hI.2 10 (hD 10 (by decide)) rfl;have zf11 : V 11 = .int .i64 0 := hI.2 11 (hD 11 (by decide)) rfl;have zf12 : V 12 = .slice (some ⟨g, off, none⟩) 5 c := hI.2 12 (hD 12 (by decide)) rfl;have zf13 : V 13 = .slice (some ⟨g, off + 4, none⟩) 1 (c - 4) := hI.2 13 (hD 13 (by decide)) rfl;have zF17 : ∃ (g_17 : Nat) (A_17 : Option Addr) (c_17 : Nat), V 16 = .pointer (some ⟨g_17, 0, none⟩) ∧ w1.heap.size ≤ g_17 ∧ Blk w2 g_17 167 #[.string ⟨#[97]⟩, .slice A_17 1 c_17, .bool false, .int .i64 0] ∧ Sl w2 9 1 (.slice A_17 1 c_17) (strsV [[98]]) := hI.2 17 (hD 17 (by decide)) rfl;obtain ⟨g_17, A_17, c_17, zf17, c17_0, b17_0, b17_1⟩ := zF17;clear hI hD HGs;simp only [frAll, Act.put, List.setIfInBounds_toArray, List.set_cons_zero, List.set_cons_succ, Nat.zero_add, Nat.reduceAdd, zf0, zf1, zf2, zf3, zf4, zf5, zf6, zf8, zf9, zf10, zf11, zf12, zf13, zf17];clear zf0 zf1 zf2 zf3 zf4 zf5 zf6 zf8 zf9 zf10 zf11 zf12 zf13 zf17;generalize V 7 = u7;generalize V 14 = u14;generalize V 15 = u15;clear V D
  have hg4r : gr ≠ g_17 := by omega
  have HW2 := Lib.hid hMx;have hgr9 := hGx.2;generalize g_17 = g4 at *;generalize A_17 = A4 at *;generalize c_17 = c4 at *;clear hMx
  go_upto_region 4 with (fail)
  have HGs := Lib.hid (show ∀ (D : Nat → Bool) (zzi : Nat) (zq zq' : World), zzi ≠ 4 → (fun D zq => (D 4 = false → (fun Z => Blk Z gr 167 #[.string ⟨#[]⟩, .slice none 0 0, .bool false, .int .i64 0]) zq) ∧ (fun Z => Blk Z g4 167 #[.string ⟨#[97]⟩, .slice A4 1 c4, .bool false, .int .i64 0] ∧ Sl Z 9 1 (.slice A4 1 c4) (strsV [[98]])) zq) D zq → Mod (fun _ => False) zq zq' → (fun D zq => (D 4 = false → (fun Z => Blk Z gr 167 #[.string ⟨#[]⟩, .slice none 0 0, .bool false, .int .i64 0]) zq) ∧ (fun Z => Blk Z g4 167 #[.string ⟨#[97]⟩, .slice A4 1 c4, .bool false, .int .i64 0] ∧ Sl Z 9 1 (.slice A4 1 c4) (strsV [[98]])) zq) (upd D zzi true) zq' from by intro D zzi zq zq' hi hh hm; refine ⟨fun hs => ?_, ?_⟩; (rw [upd_ne _ _ (Ne.symm hi)] at hs; have h := hh.1 hs; (exact h.modp hm)); (have h := hh.2; (exact ⟨h.1.modp hm, h.2.pure hm⟩)))
  refine wp_region_inv (by kernel_rfl) (by kernel_rfl) (InvF (R := Mod (fun _ => False)) [.is (.agg #[.string ⟨#[97]⟩, .slice A4 1 c4, .bool false, .int .i64 0]),
    .is (.pointer (some ⟨g4, 3, none⟩)),
    .is (.int .i64 0),
    .is (.bool true),
    ⟨fun zv zw => zv = undef ∧ Blk zw gr 167 #[.string ⟨#[97]⟩, .slice A4 1 c4, .bool false, .int .i64 0], (by rintro zv zw zx ⟨rfl, q0⟩ hm; exact ⟨rfl, (q0.modp hm)⟩), none, none⟩,
    .is (.bool true)]
    (PB w2 (· = gr) w2.heap.size (fun D zq => (D 4 = false → (fun Z => Blk Z gr 167 #[.string ⟨#[]⟩, .slice none 0 0, .bool false, .int .i64 0]) zq) ∧ (fun Z => Blk Z g4 167 #[.string ⟨#[97]⟩, .slice A4 1 c4, .bool false, .int .i64 0] ∧ Sl Z 9 1 (.slice A4 1 c4) (strsV [[98]])) zq))) (InvF.start (PB.start (Mod.refl _ _) (Nat.le_refl _) (⟨fun _ => hgr9.drew, ⟨b17_0.drew, b17_1.pure ((Mod.refl _ _).drew)⟩⟩))) ?_ ?_
  ·refine .cons ?_ (.cons ?_ (.cons ?_ (.cons ?_ (.cons ?_ (.cons ?_ .nil)))))
   ·intro D V zw1 a hR hI K hK;obtain ⟨hM1, hB1, hG1⟩ := hI.1;obtain ⟨hGK, hG1⟩ := hG1;have ze4 := hR.frame.other (t := 4) (by kernel_rfl) rfl;have zx0 := hG1.1.cell 0; have zx1 := hG1.1.cell 1; have zx2 := hG1.1.cell 2; have zx3 := hG1.1.cell 3;simp at zx0 zx1 zx2 zx3;rw [if_pos (by rfl)];go_simp;exact hK (.agg #[.string ⟨#[97]⟩, .slice A4 1 c4, .bool false, .int .i64 0]) _ (hI.next hR (by kernel_rfl) (Mod.refl _ _) (PB.quiet hI.1 (Mod.refl _ _) (HGs.out D 0 zw1 zw1 (by omega) (hI.1).g (Mod.refl _ _))) (upd_same V 0 _))
   ·intro D V zw1 a hR hI K hK;obtain ⟨hM1, hB1, hG1⟩ := hI.1;obtain ⟨hGK, hG1⟩ := hG1;have ze4 := hR.frame.other (t := 4) (by kernel_rfl) rfl;rw [if_pos (by rfl)];go_simp;exact hK (.pointer (some ⟨g4, 3, none⟩)) _ (hI.next hR (by kernel_rfl) (Mod.refl _ _) (PB.quiet hI.1 (Mod.refl _ _) (HGs.out D 1 zw1 zw1 (by omega) (hI.1).g (Mod.refl _ _))) (upd_same V 1 _))
   ·intro D V zw1 a hR hI K hK;obtain ⟨hM1, hB1, hG1⟩ := hI.1;obtain ⟨hGK, hG1⟩ := hG1;have zd1 := hR.pred 1 (by kernel_rfl);have zf1 : V 1 = .pointer (some ⟨g4, 3, none⟩) := hI.2 1 zd1 rfl;have ze44 := hR.frame.done (t := 44) (j := 1) (by kernel_rfl) hR.ok zd1;have zx0 := hG1.1.cell 0; have zx1 := hG1.1.cell 1; have zx2 := hG1.1.cell 2; have zx3 := hG1.1.cell 3;simp at zx0 zx1 zx2 zx3;rw [if_pos (by rfl)];go_simp;exact hK (.int .i64 0) _ (hI.next hR (by kernel_rfl) (Mod.refl _ _) (PB.quiet hI.1 (Mod.refl _ _) (HGs.out D 2 zw1 zw1 (by omega) (hI.1).g (Mod.refl _ _))) (upd_same V 2 _))
   ·intro D V zw1 a hR hI K hK;obtain ⟨hM1, hB1, hG1⟩ := hI.1;obtain ⟨hGK, hG1⟩ := hG1;have zd2 := hR.pred 2 (by kernel_rfl);have zf2 : V 2 = .int .i64 0 := hI.2 2 zd2 rfl;have ze45 := hR.frame.done (t := 45) (j := 2) (by kernel_rfl) hR.ok zd2;rw [if_pos (by rfl)];go_simp;exact hK (.bool true) _ (hI.next hR (by kernel_rfl) (Mod.refl _ _) (PB.quiet hI.1 (Mod.refl _ _) (HGs.out D 3 zw1 zw1 (by omega) (hI.1).g (Mod.refl _ _))) (upd_same V 3 _))
   ·intro D V zw1 a hR hI K hK;obtain ⟨hM1, hB1, hG1⟩ := hI.1;obtain ⟨hGK, hG1⟩ := hG1;have zd0 := hR.pred 0 (by kernel_rfl);have zf0 : V 0 = .agg #[.string ⟨#[97]⟩, .slice A4 1 c4, .bool false, .int .i64 0] := hI.2 0 zd0 rfl;have ze2 := hR.frame.other (t := 2) (by kernel_rfl) rfl;have ze43 := hR.frame.done (t := 43) (j := 0) (by kernel_rfl) hR.ok zd0;rw [if_pos (by rfl)];have hZ := hGK hR.not;have zx0 := hZ.cell 0; have zx1 := hZ.cell 1; have zx2 := hZ.cell 2; have zx3 := hZ.cell 3;have zy0 := hZ.frozen 0; have zy1 := hZ.frozen 1; have zy2 := hZ.frozen 2; have zy3 := hZ.frozen 3;simp at zx0 zx1 zx2 zx3;have hB5 := (((hZ.set 0 (.string ⟨#[97]⟩)).set 1 (.slice A4 1 c4)).set 2 (.bool false)).set 3 (.int .i64 0);have hmm : Mod (· = gr) zw1 ((((zw1.setCell ⟨gr, 0, none⟩ (.string ⟨#[97]⟩)).setCell ⟨gr, 1, none⟩ (.slice A4 1 c4)).setCell ⟨gr, 2, none⟩ (.bool false)).setCell ⟨gr, 3, none⟩ (.int .i64 0)) := ((((Mod.refl (· = gr) zw1).setCell (.inl rfl) _).setCell (.inl rfl) _).setCell (.inl rfl) _).setCell (.inl rfl) _;go_simp;refine hK undef _ (InvF.last ⟨hM1.trans hmm, (by simpa using hB1), ⟨fun hs => absurd hs (by rw [upd_same]; decide), ⟨hG1.1.mod hmm (by omega), hG1.2.mod hmm (fun k arr fr hk => blk_tyR hZ hk (by decide))⟩⟩⟩ ⟨upd_same _ 4 _, (by simpa using hB5)⟩ ?_);intro k hk hDk hlv;have hkl := hR.lt k hDk;have hv := hI.2 k hDk (liveB_of hlv)
    match k, hk, hDk, hlv, hkl, hv with
    | 0, _, _, _, _, hv => exact hv
    | 1, _, _, _, _, hv => exact hv
    | 2, _, _, _, _, hv => exact hv
    | 3, _, _, _, _, hv => exact hv
    | 4, hk, _, _, _, _ => exact absurd rfl hk
    | 5, _, _, _, _, hv => exact hv
    | k + 6, _, _, _, hkl, _ => exact absurd hkl (by simp)
   ·intro D V zw1 a hR hI K hK;obtain ⟨hM1, hB1, hG1⟩ := hI.1;obtain ⟨hGK, hG1⟩ := hG1;have zd3 := hR.pred 3 (by kernel_rfl);have zf3 : V 3 = .bool true := hI.2 3 zd3 rfl;have ze46 := hR.frame.done (t := 46) (j := 3) (by kernel_rfl) hR.ok zd3;rw [if_pos (by rfl)];go_simp;exact hK (.bool true) _ (hI.next hR (by kernel_rfl) (Mod.refl _ _) (PB.quiet hI.1 (Mod.refl _ _) (HGs.out D 5 zw1 zw1 (by omega) (hI.1).g (Mod.refl _ _))) (upd_same V 5 _))
  ·intro D V w3 hD hI;obtain ⟨hM1, hB1, hG1⟩ := hI.1;have hMx := hM1;clear hM1;have hBx := hB1;clear hB1;have hGx := hG1.2;clear hG1;have zf0 : V 0 = .agg #[.string ⟨#[97]⟩, .slice A4 1 c4, .bool false, .int .i64 0] := hI.2 0 (hD 0 (by decide)) rfl;have zf1 : V 1 = .pointer (some ⟨g4, 3, none⟩) := hI.2 1 (hD 1 (by decide)) rfl;have zf2 : V 2 = .int .i64 0 := hI.2 2 (hD 2 (by decide)) rfl;have zf3 : V 3 = .bool true := hI.2 3 (hD 3 (by decide)) rfl;have zF4 : V 4 = undef ∧ Blk w3 gr 167 #[.string ⟨#[97]⟩, .slice A4 1 c4, .bool false, .int .i64 0] := hI.2 4 (hD 4 (by decide)) rfl;obtain ⟨zf4, b4_0⟩ := zF4;have zf5 : V 5 = .bool true := hI.2 5 (hD 5 (by decide)) rfl;clear hI hD HGs;simp only [frAll, Act.put, List.setIfInBounds_toArray, List.set_cons_zero, List.set_cons_succ, Nat.zero_add, Nat.reduceAdd, zf0, zf1, zf2, zf3, zf4, zf5];clear zf0 zf1 zf2 zf3 zf4 zf5;clear V D;have hX := b4_0;have x0 := hX.cell 0; have x1 := hX.cell 1; have x2 := hX.cell 2; have x3 := hX.cell 3; simp at x0 x1 x2 x3
   go_wp2_with fail
   try simp only [Exit.inBlock, Exit.then]
   refine bodyPost_ret (v := .tuple #[.agg #[.string ⟨#[97]⟩, .slice A4 1 c4, .bool false, .int .i64 0], .bool true]) (by simp [results, Tryz.results107, go_sem, x0, x1, x2, x3]) rfl ?_;exact ⟨A4, c4, rfl, hGx.2, (HP.out.trans HW2.out).trans' hMx (fun i hi hlt => by omega)⟩
end Go.Proofs.YtgfgggeeoeppjaaGreatDoor
/- The one line read into a layout: the closure, lines, ReadLayout, decides. -/
namespace Go.Proofs.YtgfgggeeoeppjaaGreatDoor
open Go.RowKit
theorem info_ask : (Tryz.prog.info? 167).map (fun i => (i.zero, i.size, i.bytes)) = some (some (.agg #[.string ⟨#[]⟩, .slice none 0 0, .bool false, .int .i64 0]), 4, 56) := by kernel_rfl
def RlcPost (w : World) (gl : Nat) (e : Ending) (w' : World) : Prop := ∃ (A : Option Addr) (c : Nat) (x : AskR), e = .returned (.bool true) ∧ Blk w' gl 97 #[.slice A 1 c, .slice none 0 0] ∧ Asks w' (.slice A 1 c) [x] ∧ x.field = [97] ∧ x.ch = [[98]] ∧ x.many = false ∧ x.spread = 0 ∧ Mod (· = gl) w w'
set_option maxHeartbeats 8000000 in
theorem rl1_calls (w : World) (g off c gl c0 n0 : Nat) (hn0 : n0 = 0) (A0 : Option Addr) (hr : RowAt w 9 g off (strsV ws5)) (h1 : 5 ≤ c) (h2 : c ≤ 1000) (hA : Asc w) (hB : Blk w gl 97 #[.slice A0 n0 c0, .slice none 0 0]) (ho : w.ownsRow w.heap.size 167 4 (.slice A0 n0 c0) n0 []) :
  Calls Tryz.prog 106 #[.slice (some ⟨g, off, none⟩) 5 c, .pointer (some ⟨gl, 0, none⟩)] w (RlcPost w gl) := by
 obtain ⟨i0, hi0, hz0, hz1, hz2⟩ := info_parts info_ask;have HAL := Lib.hid (askLine_calls w g off c hr h1 h2 hA);have HB := Lib.hid hB;have HO := Lib.hid ho;have hglw := hB.lt;have HN0 := Lib.hid hn0
 have hn1 : n0 ≤ 1 := by omega
 clear hr hA hB ho hn0
 go_enter Tryz.func106, Tryz.ntmps106
 go_wp2_with fail
 refine HAL.out.mono ?_;rintro e w1 ⟨A, cc, rfl, hs, hm⟩;have hz := hm.size;have HB2 := Lib.hid ((HB.out.modp hm).alloc (.cells #[.string ⟨#[97]⟩, .slice A 1 cc, .bool false, .int .i64 0] 167));have HX2 := Lib.hid (Blk.new w1 167 #[.string ⟨#[97]⟩, .slice A 1 cc, .bool false, .int .i64 0]);have HO2 := Lib.hid ((own_pure HO.out hm).alloc (.cells #[.string ⟨#[97]⟩, .slice A 1 cc, .bool false, .int .i64 0] 167));have HS2 := Lib.hid (hs.pure ((Mod.refl _ _).alloc (.cells #[.string ⟨#[97]⟩, .slice A 1 cc, .bool false, .int .i64 0] 167)));have HM2 : Hid (Pure w (w1.alloc (.cells #[.string ⟨#[97]⟩, .slice A 1 cc, .bool false, .int .i64 0] 167))) := Lib.hid (hm.alloc _)
 have hz2' : (w1.alloc (.cells #[.string ⟨#[97]⟩, .slice A 1 cc, .bool false, .int .i64 0] 167)).heap.size = w1.heap.size + 1 := by simp
 clear hs hm HAL HB HO
 go_upto_region 2 with (fail)
 generalize (w1.alloc (.cells #[.string ⟨#[97]⟩, .slice A 1 cc, .bool false, .int .i64 0] 167)) = W at *;generalize w1.heap.size = g4 at *;have hz2a := Nat.le_of_eq hz2';have hz2b := Nat.le_of_eq hz2'.symm;clear hz2';have hB2 := HB2.out;have hX2 := HX2.out;have hownS := HO2.out;have hmS := HM2.out;have x0 := hB2.cell 0; have x1 := hB2.cell 1; simp at x0 x1;have y0 := hX2.cell 0; have y1 := hX2.cell 1; have y2 := hX2.cell 2; have y3 := hX2.cell 3; simp at y0 y1 y2 y3;clear hB2 hX2
 go_wp2_with ((at_builtin; refine wpList_append_lies _ rfl _ _ _ rfl w.heap.size 167 i0 _ 4 56 Tryz.underlying94 hi0 hz0 hz1 hz2 rfl (by omega) (.slice A0 n0 c0) n0 ([]) rfl (hownS.alloc _) ⟨W.heap.size, 0, none⟩ 1 1 [.string ⟨#[97]⟩, .slice A 1 cc, .bool false, .int .i64 0] rfl rfl (World.news_of_block (cs := #[.string ⟨#[97]⟩, .slice A 1 cc, .bool false, .int .i64 0]) (t := 167) (fr := (0, 0)) (heap_alloc_new W _)) (by simp [Value.oneCell']) (by omega) (by simp [maxLen]; omega) (by omega) (by have := hmS.size; simp; omega) (W.heap.size + 1) (by simp) ?_; intro g5 cap5 w5 hown5 hgrow hat hlt5); have hB6 := (HB2.out.alloc (.cells #[.string ⟨#[97]⟩, .slice A 1 cc, .bool false, .int .i64 0] 167)).mod (mod_grown hgrow) (fun hv => by have h2 := HB2.out.alloc (.cells #[.string ⟨#[97]⟩, .slice A 1 cc, .bool false, .int .i64 0] 167); unfold Blk at h2; exact absurd (own_ty (HO2.out.alloc (.cells #[.string ⟨#[97]⟩, .slice A 1 cc, .bool false, .int .i64 0] 167)) hv h2) (by decide)); have q1 := hB6.cell 0; have q2 := hB6.frozen 0; simp at q1)
 go_ret;obtain rfl := HN0.out;have hob := own_block hownS;have hoa := hownS.alloc (.cells #[.string ⟨#[97]⟩, .slice A 1 cc, .bool false, .int .i64 0] 167);have mG := mod_grown hgrow
 have h7 : w5.ownsRow w.heap.size 167 4 (.slice (some ⟨g5, 0, none⟩) 1 cap5) 1 (askV [⟨[97], A, cc, [[98]], false, 0⟩]) := by simpa [askV, askC] using hown5
 have hm8 : Mod (· = gl) w5 (w5.setCell ⟨gl, 0, none⟩ (.slice (some ⟨g5, 0, none⟩) 1 cap5)) := (Mod.refl (· = gl) w5).setCell (.inl rfl) _;refine ⟨some ⟨g5, 0, none⟩, cap5, ⟨[97], A, cc, [[98]], false, 0⟩, rfl, by have h5 := hB6.set 0 (.slice (some ⟨g5, 0, none⟩) 1 cap5); simpa using h5, ⟨(Sl.of_own h7).mod hm8 (fun k arr fr hk => blk_tyR hB6 hk (by decide)), fun x hx => ?_⟩, rfl, rfl, rfl, rfl, ?_⟩
 ·rw [List.mem_singleton.1 hx];exact (((HS2.out.pure (pure_alloc _ _)).mod mG (fun i arr fr hi hv => absurd (own_ty hoa hv hi) (by decide)))).mod hm8 (fun k arr fr hk => blk_tyR hB6 hk (by decide))
 ·have hpm : Mod (· = gl) w w5 := Mod.of_pure ((HM2.out.alloc _).grown hgrow (fun i hi => .inr (hob i hi)));exact hpm.setCell (p := ⟨gl, 0, none⟩) (.inl rfl) _
theorem RlcPost.base {w w1 w' : World} {gl : Nat} {e : Ending} (h : RlcPost w1 gl e w') (hp : Pure w w1) : RlcPost w gl e w' := by
 obtain ⟨A, c, x, h1, h2, h3, h4, h5, h6, h7, h8⟩ := h;exact ⟨A, c, x, h1, h2, h3, h4, h5, h6, h7, (Mod.of_pure hp).trans h8⟩
def decT : Str := [97, 115, 107, 32, 97, 32, 111, 110, 101, 32, 110, 111, 110, 101, 32, 98, 10]
def decL : Str := [97, 115, 107, 32, 97, 32, 111, 110, 101, 32, 110, 111, 110, 101, 32, 98]
theorem decT_lines : linesP decT = [decL] := by decide +kernel
theorem decT_whole : wholeP decT = true := by decide +kernel
theorem decL_words : Lib.split decL [32] = ws5 := by decide +kernel
set_option maxHeartbeats 8000000 in
theorem rlines_calls (w : World) (gl : Nat) (hM : MlnS w) (hA : Asc w) (hB : Blk w gl 97 #[.slice none 0 0, .slice none 0 0]) :
  Calls Tryz.prog 105 #[.string ⟨decT.toArray⟩, .func (.func 106) #[] #[.pointer (some ⟨gl, 0, none⟩)]] w (fun e w' => e = .returned (.int .i64 (-1)) ∧ ∃ e2, RlcPost w gl e2 w') := by
 have HL := Lib.hid (baseLines_calls w decT hM (by decide));unfold LinesPost at HL;rw [decT_lines, decT_whole] at HL;have HSP := Lib.hid (fun W (h : Pure w W) => split_calls W decL [32] (hM.pure h) (by decide) (by decide));rw [decL_words] at HSP;have HRL := Lib.hid (fun W (h : Pure w W) g c (hr : RowAt W 9 g 0 (strsV ws5)) (hc : 5 ≤ c) (hc2 : c ≤ 1000) => rl1_calls W g 0 c gl 0 0 rfl none hr hc hc2 (hA.pure h) (hB.modp h) ⟨rfl, .inl ⟨rfl, rfl⟩⟩);have HCN := Lib.hid (fun W g (h : Blk W g 9 (strsV ws5).toArray) => containsQs_calls W _ ws5 [] (blkSl3 h));rw [show (ws5.any fun x => ([] : Str) == x) = false by decide] at HCN;generalize hdt : decT = dt at *;clear hM hA hB hdt
 go_enter Tryz.func105, Tryz.ntmps105
 go_wp2_with fail
 refine HL.out.mono ?_;rintro e w1 ⟨AL, cL, rfl, hsl, hm1⟩;obtain ⟨A', n', c', e1, hc1, hc2, hl1, hr1⟩ := hsl
 injection e1 with e1 e2 e3
 have e2' : n' = 1 := e2.symm;subst e1 e2' e3;obtain ⟨gL, oL, rfl, hrow⟩ := hr1 (by omega);have HROW := Lib.hid hrow;have HM1 := Lib.hid hm1;clear hl1 hr1 hrow hm1 HL e2
 go_wp2_with fail
 go_loopg [17] 1 (fun gk i wr => (gk = 1 ∧ i = .int .i64 0 ∧ Pure w1 wr) ∨ (gk = 0 ∧ i = .int .i64 1 ∧ ∃ e2, RlcPost w gl e2 wr))
 case atStart => exact .inl ⟨rfl, rfl, Mod.refl _ _⟩
 case round =>
  rcases hrel with ⟨rfl, rfl, hm⟩ | ⟨rfl, rfl, hR⟩
  ·have hq := (HROW.out.mod hm _root_.id).cell (i := 0) (u := .string ⟨decL.toArray⟩) rfl;rw [Nat.add_zero] at hq;have HM2 := Lib.hid (HM1.out.trans hm);have HS := Lib.hid (HSP.out wr HM2.out);clear hm;generalize decL = dl at *
   go_wp2_with fail
   refine HS.out.mono ?_;rintro e w2 ⟨rfl, rfl⟩;have hB5 := Blk.new wr 9 (strsV ws5).toArray;have HC := Lib.hid (HCN.out _ _ hB5);have HB5 := Lib.hid hB5;have HM3 := Lib.hid (HM2.out.alloc (.cells (strsV ws5).toArray 9));clear hB5 hq HS HCN HSP
   go_wp2_with fail
   refine HC.out.mono ?_;rintro e w3 ⟨rfl, hm3⟩;have HB6 := Lib.hid (HB5.out.modp hm3);have HM6 := Lib.hid (HM3.out.trans hm3);have HR6 := Lib.hid (HRL.out w3 HM6.out wr.heap.size 5 HB6.out.row0 (by omega) (by omega));clear HC hm3 HM3 HB5 HRL
   go_wp2_with fail
   refine HR6.out.mono ?_;rintro e w4 hR4;have HR4 := Lib.hid (hR4.base HM6.out);obtain ⟨A4, c4, x4, rfl, _⟩ := hR4;clear HR6 HB6 HM6
   go_wp2_with fail
   go_roundg 0
   case measure => omega
   case rel => exact .inr ⟨rfl, by simp, _, HR4.out⟩
  ·have HRR := Lib.hid hR;clear hR HSP HCN HRL HROW HM1
   go_wp2_with fail
   go_ret;exact ⟨rfl, HRR.out⟩
theorem layE_x {x : AskR} (h1 : x.field = [97]) (h2 : x.ch = [[98]]) (h3 : x.many = false) (h4 : x.spread = 0) : layE ⟨[x], []⟩ = 0 := by
 obtain ⟨f, A, c, ch, m, s⟩ := x;simp only [] at h1 h2 h3 h4;subst h1 h2 h3 h4
 rfl
def RdPost (w : World) (e : Ending) (w' : World) : Prop := ∃ (A : Option Addr) (c : Nat), e = .returned (.tuple #[.agg #[.slice A 1 c, .slice none 0 0], .int .i64 0, .int .i64 0]) ∧ Pure w w'
set_option maxHeartbeats 8000000 in
theorem readLayout_calls (w : World) (hM : MlnS w) (hA : Asc w) : Calls Tryz.prog 50 #[.string ⟨decT.toArray⟩] w (RdPost w) := by
 have hp : Pure w ((w.alloc (.cells #[.slice none 0 0, .slice none 0 0] 97)).alloc (.cells #[.slice none 0 0, .slice none 0 0] 97)) := (pure_alloc _ _).trans (pure_alloc _ _);have HP := Lib.hid hp;have HG := Lib.hid ((Blk.new w 97 #[.slice none 0 0, .slice none 0 0]).alloc (.cells #[.slice none 0 0, .slice none 0 0] 97));have HLN := Lib.hid (rlines_calls ((w.alloc (.cells #[.slice none 0 0, .slice none 0 0] 97)).alloc (.cells #[.slice none 0 0, .slice none 0 0] 97)) (w.heap.size + 1) (hM.pure hp) (hA.pure hp) (Blk.snd _ _ _ _));have hdl : ((decT.length : Nat) : Int) = 17 := rfl;have hds : (⟨decT.toArray⟩ : ByteArray).size = 17 := rfl;generalize decT = dt at *;clear hM hA hp
 go_enter Tryz.func50, Tryz.ntmps50
 go_wp2_with fail
 refine HLN.out.mono ?_;rintro e w1 ⟨rfl, e2, A, c, x, _, hB, hAs, hx1, hx2, hx3, hx4, hm⟩;have HM := Lib.hid hm;have HG1 := Lib.hid (HG.out.mod hm (by omega));have HB1 := Lib.hid hB
 have HCL := Lib.hid (checkLayout_calls w1 (.agg #[.slice A 1 c, .slice none 0 0]) ⟨[x], []⟩ ⟨A, 1, c, none, 0, 0, rfl, hAs, Sl.nil_⟩ ⟨by simp, by simp, fun a ha => by
  rw [List.mem_singleton.1 ha]
  exact ⟨by rw [hx1]; simp [StB], by rw [hx2]; simp [StsA], by rw [hx4]; omega, by rw [hx4]; omega⟩, fun r hr => absurd hr (by simp)⟩)
 rw [layE_x hx1 hx2 hx3 hx4] at HCL
 have hz0 : (w.alloc (.cells #[.slice none 0 0, .slice none 0 0] 97)).heap.size = w.heap.size + 1 := by simp
 have hB1 := HB1.out;have x0 := hB1.cell 0; have x1 := hB1.cell 1; simp at x0 x1;clear hm hB hAs hx1 hx2 hx3 hx4 HG HLN hB1;generalize hgr : w.heap.size = gr at *;have hgr2 := Nat.le_of_eq hgr;clear hgr
 go_wp2_with fail
 refine HCL.out.mono ?_;rintro e w2 ⟨rfl, hm2⟩;have hB2 := HB1.out.modp hm2;have hG2 := HG1.out.modp hm2;have HGE := Lib.hid ((hG2.set 0 (.slice A 1 c)).set 1 (.slice none 0 0));have HM2 := Lib.hid hm2;have y0 := hB2.cell 0; have y1 := hB2.cell 1; simp at y0 y1;have z0 := hG2.cell 0; have zf0 := hG2.frozen 0; have z1 := hG2.cell 1; have zf1 := hG2.frozen 1; simp at z0 z1;clear hB2 hG2 HCL x0 x1 hm2
 go_wp2_with fail
 have hGE := HGE.out;have u0 := hGE.cell 0; have u1 := hGE.cell 1; simp at u0 u1
 try simp only [Exit.inBlock, Exit.then]
 refine bodyPost_ret (v := .tuple #[.agg #[.slice A 1 c, .slice none 0 0], .int .i64 0, .int .i64 0]) (by simp [results, Tryz.results50, go_sem, u0, u1]) rfl ?_;refine ⟨A, c, rfl, ?_⟩;have h1 : Pure w w2 := (HP.out.trans' HM.out (fun i hi hlt => by omega)).trans HM2.out;exact (h1.setCell (p := ⟨gr, 0, none⟩) (.inr (by show w.heap.size ≤ gr; omega)) _).setCell (p := ⟨gr, 1, none⟩) (.inr (by show w.heap.size ≤ gr; omega)) _
set_option maxHeartbeats 4000000 in
theorem decides_calls (w : World) (hM : MlnS w) (hA : Asc w) : Calls Tryz.prog 12 #[] w (BoolPost w true) := by
 have HRD := Lib.hid (readLayout_calls w hM hA);rw [show decT.toArray = #[97, 115, 107, 32, 97, 32, 111, 110, 101, 32, 110, 111, 110, 101, 32, 98, 10] from rfl] at HRD;clear hM hA
 go_enter Tryz.func12, Tryz.ntmps12
 go_wp2_with fail
 refine HRD.out.mono ?_;rintro e w1 ⟨A, c, rfl, hm⟩;have HP := Lib.hid (hm.alloc (.cells #[.slice A 1 c, .slice none 0 0] 97));have hB := Blk.new w1 97 #[.slice A 1 c, .slice none 0 0];have x0 := hB.cell 0; have x1 := hB.cell 1; simp at x0 x1;clear hB hm HRD
 go_wp2_with fail
 go_ret;exact BoolPost.of rfl HP.out
end Go.Proofs.YtgfgggeeoeppjaaGreatDoor
/- Words that the laws of reviews share. -/
namespace Go.Proofs.YtgfgggeeoeppjaaGreatDoor
open Go.RowKit
theorem strs_cell {W : World} {g q M : Nat} (ss : List Str) (h : Blk W g 9 (strsV ss).toArray) (hq : q < ss.length) (hM : ∀ s ∈ ss, s.length ≤ M) : ∃ s : Str, s.length ≤ M ∧ W.cell? ⟨g, q, none⟩ = some (.string ⟨s.toArray⟩) :=
 ⟨ss[q], hM _ (List.getElem_mem hq), by rw [h.cell q]; simpa using strsV_get ss q hq⟩
section
variable {w w' : World} {b base c N : Nat} {A : Option Addr} {ds : List DecR}
end
end Go.Proofs.YtgfgggeeoeppjaaGreatDoor
