/- Texts of the proof of DecisionMerges, put together: CmpD, OrdA, OrdB. -/
import Derived.Test.YtkkndblcejmmjaaGreatDoorDecisionMergesZ15
import Derived.Test.YtkkndblcejmmjaaGreatDoorDecisionMergesZ18
import Derived.Test.YtkkndblcejmmjaaGreatDoorDecisionMergesZ20
import Derived.Test.YtkkndblcejmmjaaGreatDoorDecisionMergesZ26
/- Places of fields and choices, with draws that are never taken back. -/
namespace Go.Proofs.YtkkndblcejmmjaaGreatDoor
set_option linter.unusedVariables false
set_option linter.unusedSimpArgs false
open Go.RowKit

def IntD (w : World) (n : Int) (e : Ending) (w' : World) : Prop := e = .returned (.int .i64 n) ∧ ModD w w'
def BoolD (w : World) (b : Bool) (e : Ending) (w' : World) : Prop := e = .returned (.bool b) ∧ ModD w w'
theorem IntD.of {w w' : World} {n m : Int} (h : n = m) (hm : ModD w w') : IntD w n (.returned (.int .i64 m)) w' := ⟨by rw [h], hm⟩
theorem BoolD.of {w w' : World} {n m : Bool} (h : n = m) (hm : ModD w w') : BoolD w n (.returned (.bool m)) w' := ⟨by rw [h], hm⟩
theorem ModD.al {a w : World} (h : ModD a w) (o : Obj) : ModD a (w.alloc o) := ⟨h.1.alloc o, h.2⟩
theorem ModD.drewN {a w : World} (h : ModD a w) (n : Nat) : ModD a (w.drewN n) := ⟨h.1.drewN n, Nat.le_trans h.2 (Nat.le_add_right _ _)⟩
theorem ModD.keep {X Y : World} {a : Addr} {v : Value} (hm : ModD X Y) (h : X.cell? a = some v) (hs : ¬ False) : Y.cell? a = some v := hm.1.keep h hs
instance ModD.coe {w w' : World} : Coe (ModD w w') (Pure w w') := ⟨fun h => h.1⟩


set_option maxRecDepth 100000 in
set_option maxHeartbeats 1000000 in
theorem indexA1D_calls (w : World) (v : Value) (xs : List AskR) (F : Nat) (c1 : Value) (P : AskR → Bool) (hv : Sl w 88 4 v (askV xs))
  (hcf : ∀ (x : AskR) (W : World), Sem.run Tryz.prog (callFunc F #[.agg #[.string ⟨x.field.toArray⟩, .slice x.A x.ch.length x.c, .bool x.many, .int .i64 x.spread], c1]) W = .ok (.enter F #[.agg #[.string ⟨x.field.toArray⟩, .slice x.A x.ch.length x.c, .bool x.many, .int .i64 x.spread], c1]) W)
  (hF : ∀ (x : AskR) (W : World), x ∈ xs → ModD w W → Calls Tryz.prog F #[.agg #[.string ⟨x.field.toArray⟩, .slice x.A x.ch.length x.c, .bool x.many, .int .i64 x.spread], c1] W (BoolD W (P x))) :
  Calls Tryz.prog 106 #[v, .func (.func F) #[] #[c1]] w (IntD w (idxQ P xs 0)) := by
 have HF := Lib.hid hF
 obtain ⟨A, n, c, rfl, hc1, hc2, hl, hr⟩ := hv
 have hln : xs.length = n := by rw [askV_len] at hl; omega
 subst hln
 have HR := Lib.hid hr
 clear hF hl hr
 go_enter Tryz.func106, Tryz.ntmps106
 go_wp2_with fail
 go_loopg [8] xs.length (fun gk i wr => ∃ k : Nat, xs.length - k = gk ∧ k ≤ xs.length ∧ i = .int .i64 (k : Int) ∧ idxQ P xs 0 = idxQ P (xs.drop k) (k : Int) ∧ ModD w wr)
 case atStart => exact ⟨0, by omega, by omega, rfl, rfl, ModD.refl _⟩
 case round =>
  obtain ⟨k, rfl, hk, rfl, hix, hm⟩ := hrel
  have HIX := Lib.hid hix
  clear hix
  by_cases hlt : k < xs.length
  ·obtain ⟨g, off, rfl, hrow⟩ := HR.out (by omega)
   have hget := askV_get xs k hlt
   have hq0 := (hrow.mod hm.1 id).cell (hget.1)
   have hq1 := (hrow.mod hm.1 id).cell (hget.2.1)
   rw [← Nat.add_assoc] at hq1
   have hq2 := (hrow.mod hm.1 id).cell (hget.2.2.1)
   rw [← Nat.add_assoc] at hq2
   have hq3 := (hrow.mod hm.1 id).cell (hget.2.2.2)
   rw [← Nat.add_assoc] at hq3
   clear hget
   have hd : xs.drop k = xs[k] :: xs.drop (k + 1) := List.drop_eq_getElem_cons hlt
   have hcall := HF.out xs[k] wr (List.getElem_mem hlt) hm
   have hi2 : idxQ P xs 0 = if P xs[k] then (k : Int) else idxQ P (xs.drop (k + 1)) ((k : Int) + 1) := by rw [HIX.out, hd]; rfl
   have HI2 := Lib.hid hi2
   have HC := Lib.hid hcall
   clear hd hi2 hcall hrow HIX
   generalize xs[k] = x at *
   go_wp2_with fail
   refine HC.out.mono ?_
   rintro e w1 ⟨rfl, hm1⟩
   cases hp : P x
   ·go_wp2_with fail
    go_roundg (xs.length - (k + 1))
    case measure => omega
    case rel => exact ⟨k + 1, rfl, hlt, by simp, by rw [HI2.out, hp]; simp, hm.trans hm1⟩
   ·go_wp2_with fail
    go_ret
    exact IntD.of (by rw [HI2.out, hp]; rfl) (hm.trans hm1)
  ·have hke : k = xs.length := by omega
   subst hke
   go_wp2_with fail
   go_ret
   exact IntD.of (by rw [HIX.out, List.drop_of_length_le (Nat.le_refl _)]; rfl) hm


set_option maxRecDepth 100000 in
set_option maxHeartbeats 1000000 in
theorem indexQsD_calls (w : World) (v : Value) (xs : List Str) (y : Str) (hv : Sl w 9 1 v (strsV xs)) : Calls Tryz.prog 73 #[v, .string ⟨y.toArray⟩] w (IntD w (idxQ (fun x => y == x) xs 0)) := by
 obtain ⟨A, n, c, rfl, hc1, hc2, hl, hr⟩ := hv
 have hln : xs.length = n := by rw [strsV_lenT] at hl; omega
 subst hln
 have HR := Lib.hid hr
 clear hl hr
 go_enter Tryz.func73, Tryz.ntmps73
 go_wp2_with fail
 go_loopg [8] xs.length (fun gk i wr => ∃ k : Nat, xs.length - k = gk ∧ k ≤ xs.length ∧ i = .int .i64 (k : Int) ∧ idxQ (fun x => y == x) xs 0 = idxQ (fun x => y == x) (xs.drop k) (k : Int) ∧ w = wr)
 case atStart => exact ⟨0, by omega, by omega, rfl, rfl, rfl⟩
 case round =>
  obtain ⟨k, rfl, hk, rfl, hix, rfl⟩ := hrel
  have HIX := Lib.hid hix
  clear hix
  by_cases hlt : k < xs.length
  ·obtain ⟨g, off, rfl, hrow⟩ := HR.out (by omega)
   have hq := hrow.cell (strsV_get xs k hlt)
   have hd : xs.drop k = xs[k] :: xs.drop (k + 1) := List.drop_eq_getElem_cons hlt
   have hi2 : idxQ (fun x => y == x) xs 0 = if (fun x => y == x) xs[k] then (k : Int) else idxQ (fun x => y == x) (xs.drop (k + 1)) ((k : Int) + 1) := by rw [HIX.out, hd]; rfl
   have HI2 := Lib.hid hi2
   clear hd hi2 hrow HIX
   generalize xs[k] = x at *
   have heq : (y == x) = (y == x) := by first | rfl | (exact Bool.eq_iff_iff.2 (by simp; try omega))
   cases hp : (y == x)
   ·have hp2 := heq.trans hp
    have HP := Lib.hid hp
    clear hp heq
    go_wp2_with fail
    go_roundg (xs.length - (k + 1))
    case measure => omega
    case rel => exact ⟨k + 1, rfl, hlt, by simp, by rw [HI2.out]; simp only [HP.out]; simp, rfl⟩
   ·have hp2 := heq.trans hp
    have HP := Lib.hid hp
    clear hp heq
    go_wp2_with fail
    go_ret
    exact IntD.of (by rw [HI2.out]; simp only [HP.out]; simp) (ModD.refl _)
  ·have hke : k = xs.length := by omega
   subst hke
   go_wp2_with fail
   go_ret
   exact IntD.of (by rw [HIX.out, List.drop_of_length_le (Nat.le_refl _)]; rfl) (ModD.refl _)

set_option maxRecDepth 100000 in
set_option maxHeartbeats 1000000 in
theorem ask1D_calls (w : World) (g : Nat) (s : Str) (x : AskR) (hb : w.cell? ⟨g, 0, none⟩ = some (.string ⟨s.toArray⟩)) : Calls Tryz.prog 131 #[.agg #[.string ⟨x.field.toArray⟩, .slice x.A x.ch.length x.c, .bool x.many, .int .i64 x.spread], .pointer (some ⟨g, 0, none⟩)] w (BoolD w (x.field == s)) := by
 have hb2 := cell_alloc hb (.cells #[.string ⟨x.field.toArray⟩, .slice x.A x.ch.length x.c, .bool x.many, .int .i64 x.spread] 88)
 clear hb
 go_enter Tryz.func131, Tryz.ntmps131
 go_wp2_with fail
 go_ret
 exact BoolD.of rfl (ModD.alloc _ _)

set_option maxRecDepth 100000 in
set_option maxHeartbeats 1000000 in
theorem askAt1D_calls (w : World) (g : Nat) (s : Str) (x : AskR) (hb : w.cell? ⟨g, 0, none⟩ = some (.string ⟨s.toArray⟩)) : Calls Tryz.prog 132 #[.agg #[.string ⟨x.field.toArray⟩, .slice x.A x.ch.length x.c, .bool x.many, .int .i64 x.spread], .pointer (some ⟨g, 0, none⟩)] w (BoolD w (x.field == s)) := by
 have hb2 := cell_alloc hb (.cells #[.string ⟨x.field.toArray⟩, .slice x.A x.ch.length x.c, .bool x.many, .int .i64 x.spread] 88)
 clear hb
 go_enter Tryz.func132, Tryz.ntmps132
 go_wp2_with fail
 go_ret
 exact BoolD.of rfl (ModD.alloc _ _)


set_option maxRecDepth 100000 in
set_option maxHeartbeats 2000000 in
theorem askD_calls (w : World) (v : Value) (L : LayR) (s : Str) (hL : LayV w L v) : Calls Tryz.prog 72 #[v, .string ⟨s.toArray⟩] w (IntD w (askI L.asks s)) := by
 obtain ⟨A, n, c, A2, n2, c2, rfl, hA, hR⟩ := hL
 have B0 := Blk.new (w.alloc (.cells #[.slice A n c, .slice A2 n2 c2] 29)) 9 #[.string ⟨s.toArray⟩]
 have M0 : ModD w ((w.alloc (.cells #[.slice A n c, .slice A2 n2 c2] 29)).alloc (.cells #[.string ⟨s.toArray⟩] 9)) := (ModD.alloc _ _).trans (ModD.alloc _ _)
 have HIX := Lib.hid (indexA1D_calls ((w.alloc (.cells #[.slice A n c, .slice A2 n2 c2] 29)).alloc (.cells #[.string ⟨s.toArray⟩] 9)) (.slice A n c) L.asks 131 (.pointer (some ⟨w.heap.size + 1, 0, none⟩)) (fun x => x.field == s) (hA.1.pure M0) (fun _ _ => rfl)
  (fun x W _ hm => ask1D_calls W (w.heap.size + 1) s x (hm.keep (by rw [World.size_alloc] at B0; simp [B0.cell 0]) id)))
 rw [askI_idx] at HIX
 have HM := Lib.hid M0
 have C0 := (Blk.new w 29 #[.slice A n c, .slice A2 n2 c2]).alloc (.cells #[.string ⟨s.toArray⟩] 9)
 have c0 := C0.cell 0; have c1 := C0.cell 1; simp at c0 c1
 clear B0 C0 M0 hA hR
 go_enter Tryz.func72, Tryz.ntmps72
 go_wp2_with fail
 refine HIX.out.mono ?_
 rintro e w1 ⟨rfl, hm⟩
 clear HIX
 generalize askI L.asks s = r at *
 go_wp2_with fail
 go_ret
 exact IntD.of rfl (HM.out.trans hm)

set_option maxRecDepth 100000 in
set_option maxHeartbeats 2000000 in
theorem askAtD_calls (w : World) (v : Value) (L : LayR) (s : Str) (hL : LayV w L v) : Calls Tryz.prog 74 #[v, .string ⟨s.toArray⟩] w (IntD w (askI L.asks s)) := by
 obtain ⟨A, n, c, A2, n2, c2, rfl, hA, hR⟩ := hL
 have B0 := Blk.new (w.alloc (.cells #[.slice A n c, .slice A2 n2 c2] 29)) 9 #[.string ⟨s.toArray⟩]
 have M0 : ModD w ((w.alloc (.cells #[.slice A n c, .slice A2 n2 c2] 29)).alloc (.cells #[.string ⟨s.toArray⟩] 9)) := (ModD.alloc _ _).trans (ModD.alloc _ _)
 have HIX := Lib.hid (indexA1D_calls ((w.alloc (.cells #[.slice A n c, .slice A2 n2 c2] 29)).alloc (.cells #[.string ⟨s.toArray⟩] 9)) (.slice A n c) L.asks 132 (.pointer (some ⟨w.heap.size + 1, 0, none⟩)) (fun x => x.field == s) (hA.1.pure M0) (fun _ _ => rfl)
  (fun x W _ hm => askAt1D_calls W (w.heap.size + 1) s x (hm.keep (by rw [World.size_alloc] at B0; simp [B0.cell 0]) id)))
 rw [askI_idx] at HIX
 have HM := Lib.hid M0
 have C0 := (Blk.new w 29 #[.slice A n c, .slice A2 n2 c2]).alloc (.cells #[.string ⟨s.toArray⟩] 9)
 have c0 := C0.cell 0; have c1 := C0.cell 1; simp at c0 c1
 clear B0 C0 M0 hA hR
 go_enter Tryz.func74, Tryz.ntmps74
 go_wp2_with fail
 refine HIX.out.mono ?_
 rintro e w1 ⟨rfl, hm⟩
 clear HIX
 generalize askI L.asks s = r at *
 go_wp2_with fail
 go_ret
 exact IntD.of rfl (HM.out.trans hm)



end Go.Proofs.YtkkndblcejmmjaaGreatDoor

/- slices.CompareFunc at strings, at choices, at rows of numbers; slices.Compare of numbers; cmp.Or. -/
namespace Go.Proofs.YtkkndblcejmmjaaGreatDoor
set_option linter.unusedVariables false
set_option linter.unusedSimpArgs false
open Go.RowKit


set_option maxRecDepth 100000 in
set_option maxHeartbeats 2000000 in
theorem compS2_calls (w : World) (v1 v2 : Value) (xs ys : List Str) (F : Nat) (c1 c2 : Value) (f : Str → Str → Int) (h1 : Sl w 9 1 v1 (strsV xs)) (h2 : Sl w 9 1 v2 (strsV ys))
  (hcf : ∀ (x y : Str) (W : World), Sem.run Tryz.prog (callFunc F #[.string ⟨x.toArray⟩, .string ⟨y.toArray⟩, c1, c2]) W = .ok (.enter F #[.string ⟨x.toArray⟩, .string ⟨y.toArray⟩, c1, c2]) W)
  (hF : ∀ (x y : Str) (W : World), x ∈ xs → y ∈ ys → ModD w W → Calls Tryz.prog F #[.string ⟨x.toArray⟩, .string ⟨y.toArray⟩, c1, c2] W (IntD W (f x y))) :
  Calls Tryz.prog 137 #[v1, v2, .func (.func F) #[] #[c1, c2]] w (IntD w (cmpQ f xs ys)) := by
 have HF := Lib.hid hF
 obtain ⟨A1, n1, c1', rfl, a1, a2, a3, a4⟩ := h1
 obtain ⟨A2, n2, c2', rfl, b1, b2, b3, b4⟩ := h2
 have hn1 : xs.length = n1 := by rw [strsV_lenT] at a3; omega
 have hn2 : ys.length = n2 := by rw [strsV_lenT] at b3; omega
 subst hn1
 subst hn2
 have HA := Lib.hid a4
 have HB := Lib.hid b4
 have hyb : ys.length ≤ 9223372036854775807 := by omega
 have hxb : xs.length ≤ 9223372036854775807 := by omega
 clear a3 b3 a4 b4 hF
 go_enter Tryz.func137, Tryz.ntmps137
 go_wp2_with fail
 go_loopg [13] xs.length (fun gk i wr => ∃ k : Nat, xs.length - k = gk ∧ k ≤ xs.length ∧ i = .int .i64 (k : Int) ∧ Hid (cmpQ f (xs.drop k) (ys.drop k) = cmpQ f xs ys) ∧ ModD w wr)
 case atStart => exact ⟨0, by omega, by omega, rfl, Lib.hid rfl, ModD.refl _⟩
 case round =>
  obtain ⟨k, rfl, hk, rfl, HT, hm⟩ := hrel
  by_cases hlt : k < xs.length
  ·obtain ⟨g1, o1, rfl, r1⟩ := HA.out (by omega)
   have q1 := (r1.mod hm.1 id).cell (strsV_get xs k hlt)
   have hkl : (k : Int) < (xs.length : Int) := by omega
   clear r1
   by_cases hky : k < ys.length
   ·obtain ⟨g2, o2, rfl, r2⟩ := HB.out (by omega)
    have q2 := (r2.mod hm.1 id).cell (strsV_get ys k hky)
    have HC := Lib.hid (HF.out xs[k] ys[k] wr (List.getElem_mem hlt) (List.getElem_mem hky) hm)
    have HS := Lib.hid (HT.out.symm.trans (cmpQ_take f hlt hky))
    have hkn : ¬ (ys.length : Int) ≤ (k : Int) := by omega
    have hkm : (k : Int) < (ys.length : Int) := by omega
    clear r2 HT
    generalize xs[k] = x at *
    generalize ys[k] = y at *
    generalize f x y = q at *
    generalize cmpQ f xs ys = r at *
    go_wp2_with fail
    refine HC.out.mono ?_
    rintro e w1 ⟨rfl, hm1⟩
    have HM := Lib.hid (hm.trans hm1)
    clear HC hm hm1
    by_cases hq : q = 0
    ·subst hq
     have HN : Hid (cmpQ f (xs.drop (k + 1)) (ys.drop (k + 1)) = r) := Lib.hid (by rw [HS.out, if_neg (by simp)])
     clear HS
     go_wp2_with fail
     go_roundg (xs.length - (k + 1))
     case measure => omega
     case rel => exact ⟨k + 1, rfl, by omega, by simp, HN, HM.out⟩
    ·have hq' : (q != 0) = true := by simpa using hq
     have HN : Hid (r = q) := Lib.hid (by rw [HS.out, if_pos hq])
     clear HS
     go_wp2_with fail
     go_ret
     exact IntD.of HN.out HM.out
   ·have HN : Hid (cmpQ f xs ys = 1) := Lib.hid (HT.out.symm.trans (cmpQ_endR f hlt (by omega)))
    have hkn : (ys.length : Int) ≤ (k : Int) := by omega
    clear HT
    go_wp2_with fail
    go_ret
    exact IntD.of HN.out hm
  ·have hke : xs.length ≤ k := by omega
   have HN := Lib.hid (HT.out.symm.trans (cmpQ_endL f hke))
   clear HT
   generalize cmpQ f xs ys = r at *
   have hkk : k = xs.length := by omega
   subst hkk
   by_cases hky : xs.length < ys.length
   ·have hky' : (xs.length : Int) < (ys.length : Int) := by omega
    have HN2 : Hid (r = -1) := Lib.hid (by rw [HN.out, if_pos hky])
    clear HN hke
    go_wp2_with fail
    go_ret
    exact IntD.of HN2.out hm
   ·have hky' : ¬ (xs.length : Int) < (ys.length : Int) := by omega
    have HN2 : Hid (r = 0) := Lib.hid (by rw [HN.out, if_neg hky])
    clear HN hke
    go_wp2_with fail
    go_ret
    exact IntD.of HN2.out hm


set_option maxRecDepth 100000 in
set_option maxHeartbeats 2000000 in
theorem compC1_calls (w : World) (v1 v2 : Value) (xs ys : List ChoR) (F : Nat) (c1 : Value) (f : ChoR → ChoR → Int) (h1 : Vals w v1 xs) (h2 : Vals w v2 ys)
  (hcf : ∀ (x y : ChoR) (W : World), Sem.run Tryz.prog (callFunc F #[.agg #[.string ⟨x.field.toArray⟩, .slice x.A x.ch.length x.c], .agg #[.string ⟨y.field.toArray⟩, .slice y.A y.ch.length y.c], c1]) W = .ok (.enter F #[.agg #[.string ⟨x.field.toArray⟩, .slice x.A x.ch.length x.c], .agg #[.string ⟨y.field.toArray⟩, .slice y.A y.ch.length y.c], c1]) W)
  (hF : ∀ (x y : ChoR) (W : World), x ∈ xs → y ∈ ys → ModD w W → Calls Tryz.prog F #[.agg #[.string ⟨x.field.toArray⟩, .slice x.A x.ch.length x.c], .agg #[.string ⟨y.field.toArray⟩, .slice y.A y.ch.length y.c], c1] W (IntD W (f x y))) :
  Calls Tryz.prog 134 #[v1, v2, .func (.func F) #[] #[c1]] w (IntD w (cmpQ f xs ys)) := by
 have HF := Lib.hid hF
 obtain ⟨A1, n1, c1', rfl⟩ := h1.1.form
 obtain ⟨A2, n2, c2', rfl⟩ := h2.1.form
 have hxb : n1 ≤ 9223372036854775807 := by have := Sl.capL h1.1; omega
 have hyb : n2 ≤ 9223372036854775807 := by have := Sl.capL h2.1; omega
 have hn1 := h1.len
 have hn2 := h2.len
 subst hn1
 subst hn2
 have H1 := Lib.hid h1
 have H2 := Lib.hid h2
 clear h1 h2 hF
 go_enter Tryz.func134, Tryz.ntmps134
 go_wp2_with fail
 go_loopg [13] xs.length (fun gk i wr => ∃ k : Nat, xs.length - k = gk ∧ k ≤ xs.length ∧ i = .int .i64 (k : Int) ∧ Hid (cmpQ f (xs.drop k) (ys.drop k) = cmpQ f xs ys) ∧ ModD w wr)
 case atStart => exact ⟨0, by omega, by omega, rfl, Lib.hid rfl, ModD.refl _⟩
 case round =>
  obtain ⟨k, rfl, hk, rfl, HT, hm⟩ := hrel
  by_cases hlt : k < xs.length
  ·obtain ⟨g1, o1, rfl, q0, q1⟩ := Vals.cells (H1.out.pure hm.1) hlt
   have hkl : (k : Int) < (xs.length : Int) := by omega
   by_cases hky : k < ys.length
   ·obtain ⟨g2, o2, rfl, p0, p1⟩ := Vals.cells (H2.out.pure hm.1) hky
    have HC0 := Lib.hid (fun W (h : ModD w W) => HF.out xs[k] ys[k] W (List.getElem_mem hlt) (List.getElem_mem hky) h)
    have HS := Lib.hid (HT.out.symm.trans (cmpQ_take f hlt hky))
    have hkn : ¬ (ys.length : Int) ≤ (k : Int) := by omega
    have hkm : (k : Int) < (ys.length : Int) := by omega
    clear HT
    generalize xs[k] = x at *
    generalize ys[k] = y at *
    have r0 := cell_alloc p0 (.cells #[.string ⟨x.field.toArray⟩, .slice x.A x.ch.length x.c] 105)
    have r1 := cell_alloc p1 (.cells #[.string ⟨x.field.toArray⟩, .slice x.A x.ch.length x.c] 105)
    have HM0 : Hid (ModD w ((wr.alloc (.cells #[.string ⟨x.field.toArray⟩, .slice x.A x.ch.length x.c] 105)).alloc (.cells #[.string ⟨y.field.toArray⟩, .slice y.A y.ch.length y.c] 105))) := Lib.hid ((hm.al _).al _)
    have HC := Lib.hid (HC0.out _ HM0.out)
    generalize f x y = q at *
    generalize cmpQ f xs ys = r at *
    clear p0 p1 HC0 hm
    go_wp2_with fail
    refine HC.out.mono ?_
    rintro e w1 ⟨rfl, hm1⟩
    have HM := Lib.hid (HM0.out.trans hm1)
    clear HC hm1 HM0
    by_cases hq : q = 0
    ·subst hq
     have HN : Hid (cmpQ f (xs.drop (k + 1)) (ys.drop (k + 1)) = r) := Lib.hid (by rw [HS.out, if_neg (by simp)])
     clear HS
     go_wp2_with fail
     go_roundg (xs.length - (k + 1))
     case measure => omega
     case rel => exact ⟨k + 1, rfl, by omega, by simp, HN, HM.out⟩
    ·have hq' : (q != 0) = true := by simpa using hq
     have HN : Hid (r = q) := Lib.hid (by rw [HS.out, if_pos hq])
     clear HS
     go_wp2_with fail
     go_ret
     exact IntD.of HN.out HM.out
   ·have HN : Hid (cmpQ f xs ys = 1) := Lib.hid (HT.out.symm.trans (cmpQ_endR f hlt (by omega)))
    have hkn : (ys.length : Int) ≤ (k : Int) := by omega
    have HM := Lib.hid hm
    clear HT hm
    go_wp2_with fail
    go_ret
    exact IntD.of HN.out (HM.out.al _)
  ·have hke : xs.length ≤ k := by omega
   have HN := Lib.hid (HT.out.symm.trans (cmpQ_endL f hke))
   clear HT
   generalize cmpQ f xs ys = r at *
   have hkk : k = xs.length := by omega
   subst hkk
   by_cases hky : xs.length < ys.length
   ·have hky' : (xs.length : Int) < (ys.length : Int) := by omega
    have HN2 : Hid (r = -1) := Lib.hid (by rw [HN.out, if_pos hky])
    clear HN hke
    go_wp2_with fail
    go_ret
    exact IntD.of HN2.out hm
   ·have hky' : ¬ (xs.length : Int) < (ys.length : Int) := by omega
    have HN2 : Hid (r = 0) := Lib.hid (by rw [HN.out, if_neg hky])
    clear HN hke
    go_wp2_with fail
    go_ret
    exact IntD.of HN2.out hm


end Go.Proofs.YtkkndblcejmmjaaGreatDoor

/- The order of values: the program's. -/
namespace Go.Proofs.YtkkndblcejmmjaaGreatDoor
set_option linter.unusedVariables false
set_option linter.unusedSimpArgs false
open Go.RowKit

set_option maxRecDepth 100000 in
set_option maxHeartbeats 400000 in
theorem orID_calls (w : World) (g c : Nat) (es : List Int) (hb : RowAt w 3 g 0 (es.map (Value.int .i64))) (hl : es.length ≤ 1000) :
  Calls Tryz.prog 81 #[.slice (some ⟨g, 0, none⟩) es.length c] w (IntD w (firstErr es)) := by
 go_enter Tryz.func81, Tryz.ntmps81
 go_wp2_with fail
 go_loopg [8] es.length (fun gk i wr => ∃ k : Nat, es.length - k = gk ∧ k ≤ es.length ∧ i = .int .i64 (k : Int) ∧ firstErr (es.drop k) = firstErr es ∧ w = wr)
 case atStart => exact ⟨0, by omega, by omega, rfl, rfl, rfl⟩
 case round =>
  obtain ⟨k, rfl, hk, rfl, hf, rfl⟩ := hrel
  have HF := Lib.hid hf
  clear hf
  by_cases hlt : k < es.length
  ·have hc := hb.cell (i := k) (u := .int .i64 es[k]) (by simp [hlt])
   rw [Nat.zero_add] at hc
   have hd : es.drop k = es[k] :: es.drop (k + 1) := List.drop_eq_getElem_cons hlt
   have hf2 : firstErr es = if es[k] = 0 then firstErr (es.drop (k + 1)) else es[k] := by rw [← HF.out, hd]; rfl
   have HF2 := Lib.hid hf2
   clear hd hf2
   generalize es[k] = x at *
   by_cases hx : x = 0
   ·subst hx
    go_wp2_with fail
    go_roundg (es.length - (k + 1))
    case measure => omega
    case rel => exact ⟨k + 1, rfl, hlt, by simp, by rw [HF2.out]; simp, rfl⟩
   ·have hx2 : (x != 0) = true := by simpa using hx
    go_wp2_with fail
    go_ret
    exact ⟨by rw [HF2.out, if_neg hx]; rfl, ModD.refl _⟩
  ·have hke : k = es.length := by omega
   subst hke
   go_wp2_with fail
   go_ret
   exact ⟨by rw [← HF.out]; simp [firstErr], ModD.refl _⟩



theorem kIx_bd (al : List AskR) (s : Str) : -1 ≤ kIx al s ∧ kIx al s < al.length := by
 unfold kIx
 cases h : askIx al s with
 | none => simp; omega
 | some k => obtain ⟨hk, _⟩ := askIx_some h; simp; omega

set_option maxRecDepth 100000 in
set_option maxHeartbeats 2000000 in
theorem place_calls (w : World) (gl gk : Nat) (A : Option Addr) (n c k : Nat) (u : Value) (al : List AskR) (s t : Str) (hB : Blk w gl 29 #[.slice A n c, u]) (hK : w.cell? ⟨gk, 0, none⟩ = some (.int .i64 (k : Int))) (hA : Asks w (.slice A n c) al) (hk : k < al.length) (hb : al[k].ch.length ≤ 100) :
  Calls Tryz.prog 136 #[.string ⟨s.toArray⟩, .string ⟨t.toArray⟩, .pointer (some ⟨gl, 0, none⟩), .pointer (some ⟨gk, 0, none⟩)] w (IntD w (chCmp al[k].ch s t)) := by
 obtain ⟨ga, oa, rfl, q0, q1, q2, q3⟩ := hA.cells hk
 have hln := hA.len
 have hel : Sl w 9 1 (.slice al[k].A al[k].ch.length al[k].c) (strsV al[k].ch) := hA.2 _ (List.getElem_mem hk)
 have HIX := Lib.hid (fun W (h : ModD w W) (z : Str) => indexQsD_calls W _ al[k].ch z (hel.pure h.1))
 have HQ : Hid (chCmp al[k].ch s t = ixS al[k].ch s - ixS al[k].ch t) := Lib.hid rfl
 have hs1 := ixS_lt al[k].ch s
 have hs2 := ixS_lt al[k].ch t
 subst hln
 simp only [ixS_idx] at HIX
 generalize chCmp al[k].ch s t = q at *
 generalize hp1 : ixS al[k].ch s = p1 at *
 have HP1 := Lib.hid hp1
 generalize hp2 : ixS al[k].ch t = p2 at *
 have HP2 := Lib.hid hp2
 have hwr : IntKind.i64.wrap (p1 - p2) = p1 - p2 := IntWalk.i64_in _ (by omega)
 have HQ1 := Lib.hid q1
 have HC1 := Lib.hid (hB.cell 0)
 have HK := Lib.hid hK
 have hkl : (k : Int) < (al.length : Int) := by omega
 clear hp1 hp2 q0 q1 q2 q3 hA hel hB hK hs1 hs2
 go_enter Tryz.func136, Tryz.ntmps136
 go_upto_region 1 with (fail)
 have HGs := Lib.hid (show ∀ (D : Nat → Bool) (zzi : Nat) (zq zq' : World), (fun _ zq => (fun Z => w.drawn ≤ Z.drawn) zq) D zq → ModD zq zq' → (fun _ zq => (fun Z => w.drawn ≤ Z.drawn) zq) (upd D zzi true) zq' from by intro D zzi zq zq' h hm; (exact Nat.le_trans h hm.2))
 refine wp_region_inv (by kernel_rfl) (by kernel_rfl) (InvF (R := ModD) [.is (.pointer (some ⟨gl, 0, none⟩)),
   .is (.slice (some ⟨ga, oa, none⟩) al.length c),
   .is (.int .i64 (k : Int)),
   .is (.pointer (some ⟨ga, oa + k * 4, none⟩)),
   .is (.pointer (some ⟨ga, oa + k * 4 + 1, none⟩)),
   .is (.slice al[k].A al[k].ch.length al[k].c),
   .is (.string ⟨s.toArray⟩),
   .is (.int .i64 p1),
   .is (.pointer (some ⟨gl, 0, none⟩)),
   .is (.slice (some ⟨ga, oa, none⟩) al.length c),
   .is (.int .i64 (k : Int)),
   .is (.pointer (some ⟨ga, oa + k * 4, none⟩)),
   .is (.pointer (some ⟨ga, oa + k * 4 + 1, none⟩)),
   .is (.slice al[k].A al[k].ch.length al[k].c),
   .is (.string ⟨t.toArray⟩),
   .is (.int .i64 p2),
   .is (.int .i64 (p1 - p2)),
   .is (.int .i64 (p1 - p2))]
   (PB w (fun _ => False) w.heap.size (fun _ zq => (fun Z => w.drawn ≤ Z.drawn) zq))) (InvF.start (PB.start (Mod.refl _ _) (Nat.le_refl _) ((Nat.le_succ _)))) ?_ ?_
 ·refine .cons ?_ (.cons ?_ (.cons ?_ (.cons ?_ (.cons ?_ (.cons ?_ (.cons ?_ (.cons ?_ (.cons ?_ (.cons ?_ (.cons ?_ (.cons ?_ (.cons ?_ (.cons ?_ (.cons ?_ (.cons ?_ (.cons ?_ (.cons ?_ .nil)))))))))))))))))
  ·intro D V zw1 a hR hI K hK
   obtain ⟨hM1, hB1, hG1⟩ := hI.1
   have ze2 := hR.frame.other (t := 2) (by kernel_rfl) rfl
   rw [if_pos (by rfl)]
   go_simp
   exact hK (.pointer (some ⟨gl, 0, none⟩)) _ (hI.next hR (by kernel_rfl) (ModD.refl _) (PB.quiet hI.1 (Mod.refl _ _) (HGs.out D 0 zw1 zw1 (hI.1).g (ModD.refl _))) (upd_same V 0 _))
  ·intro D V zw1 a hR hI K hK
   obtain ⟨hM1, hB1, hG1⟩ := hI.1
   have zd0 := hR.pred 0 (by kernel_rfl)
   have zF0 : V 0 = .pointer (some ⟨gl, 0, none⟩) := hI.2 0 zd0 rfl
   have zf0 := zF0; clear zF0
   have ze7 := hR.frame.done (t := 7) (j := 0) (by kernel_rfl) hR.ok zd0
   have zx := keepp HC1.out hM1
   simp at zx
   rw [if_pos (by rfl)]
   go_simp
   exact hK (.slice (some ⟨ga, oa, none⟩) al.length c) _ (hI.next hR (by kernel_rfl) (ModD.refl _) (PB.quiet hI.1 (Mod.refl _ _) (HGs.out D 1 zw1 zw1 (hI.1).g (ModD.refl _))) (upd_same V 1 _))
  ·intro D V zw1 a hR hI K hK
   obtain ⟨hM1, hB1, hG1⟩ := hI.1
   have ze3 := hR.frame.other (t := 3) (by kernel_rfl) rfl
   have zx := keepp HK.out hM1
   rw [if_pos (by rfl)]
   go_simp
   exact hK (.int .i64 (k : Int)) _ (hI.next hR (by kernel_rfl) (ModD.refl _) (PB.quiet hI.1 (Mod.refl _ _) (HGs.out D 2 zw1 zw1 (hI.1).g (ModD.refl _))) (upd_same V 2 _))
  ·intro D V zw1 a hR hI K hK
   obtain ⟨hM1, hB1, hG1⟩ := hI.1
   have zd1 := hR.pred 1 (by kernel_rfl)
   have zF1 : V 1 = .slice (some ⟨ga, oa, none⟩) al.length c := hI.2 1 zd1 rfl
   have zf1 := zF1; clear zF1
   have zd2 := hR.pred 2 (by kernel_rfl)
   have zF2 : V 2 = .int .i64 (k : Int) := hI.2 2 zd2 rfl
   have zf2 := zF2; clear zF2
   have ze8 := hR.frame.done (t := 8) (j := 1) (by kernel_rfl) hR.ok zd1
   have ze9 := hR.frame.done (t := 9) (j := 2) (by kernel_rfl) hR.ok zd2
   rw [if_pos (by rfl)]
   go_simp
   exact hK (.pointer (some ⟨ga, oa + k * 4, none⟩)) _ (hI.next hR (by kernel_rfl) (ModD.refl _) (PB.quiet hI.1 (Mod.refl _ _) (HGs.out D 3 zw1 zw1 (hI.1).g (ModD.refl _))) (upd_same V 3 _))
  ·intro D V zw1 a hR hI K hK
   obtain ⟨hM1, hB1, hG1⟩ := hI.1
   have zd3 := hR.pred 3 (by kernel_rfl)
   have zF3 : V 3 = .pointer (some ⟨ga, oa + k * 4, none⟩) := hI.2 3 zd3 rfl
   have zf3 := zF3; clear zF3
   have ze10 := hR.frame.done (t := 10) (j := 3) (by kernel_rfl) hR.ok zd3
   rw [if_pos (by rfl)]
   go_simp
   exact hK (.pointer (some ⟨ga, oa + k * 4 + 1, none⟩)) _ (hI.next hR (by kernel_rfl) (ModD.refl _) (PB.quiet hI.1 (Mod.refl _ _) (HGs.out D 4 zw1 zw1 (hI.1).g (ModD.refl _))) (upd_same V 4 _))
  ·intro D V zw1 a hR hI K hK
   obtain ⟨hM1, hB1, hG1⟩ := hI.1
   have zd4 := hR.pred 4 (by kernel_rfl)
   have zF4 : V 4 = .pointer (some ⟨ga, oa + k * 4 + 1, none⟩) := hI.2 4 zd4 rfl
   have zf4 := zF4; clear zF4
   have ze11 := hR.frame.done (t := 11) (j := 4) (by kernel_rfl) hR.ok zd4
   have zx := keepp HQ1.out hM1
   rw [if_pos (by rfl)]
   go_simp
   exact hK (.slice al[k].A al[k].ch.length al[k].c) _ (hI.next hR (by kernel_rfl) (ModD.refl _) (PB.quiet hI.1 (Mod.refl _ _) (HGs.out D 5 zw1 zw1 (hI.1).g (ModD.refl _))) (upd_same V 5 _))
  ·intro D V zw1 a hR hI K hK
   obtain ⟨hM1, hB1, hG1⟩ := hI.1
   have ze0 := hR.frame.other (t := 0) (by kernel_rfl) rfl
   rw [if_pos (by rfl)]
   go_simp
   exact hK (.string ⟨s.toArray⟩) _ (hI.next hR (by kernel_rfl) (ModD.refl _) (PB.quiet hI.1 (Mod.refl _ _) (HGs.out D 6 zw1 zw1 (hI.1).g (ModD.refl _))) (upd_same V 6 _))
  ·intro D V zw1 a hR hI K hK
   obtain ⟨hM1, hB1, hG1⟩ := hI.1
   have zd5 := hR.pred 5 (by kernel_rfl)
   have zF5 : V 5 = .slice al[k].A al[k].ch.length al[k].c := hI.2 5 zd5 rfl
   have zf5 := zF5; clear zF5
   have zd6 := hR.pred 6 (by kernel_rfl)
   have zF6 : V 6 = .string ⟨s.toArray⟩ := hI.2 6 zd6 rfl
   have zf6 := zF6; clear zF6
   have ze12 := hR.frame.done (t := 12) (j := 5) (by kernel_rfl) hR.ok zd5
   have ze13 := hR.frame.done (t := 13) (j := 6) (by kernel_rfl) hR.ok zd6
   rw [if_pos (by rfl)]
   go_simp
   refine (HIX.out zw1 ⟨hM1, hG1⟩ s).mono ?_
   rintro e zw2 ⟨he, hm2⟩
   rw [HP1.out] at he
   subst he
   exact hK (.int .i64 p1) _ (hI.next hR (by kernel_rfl) hm2 (PB.quiet hI.1 hm2.1 (HGs.out D 7 _ _ (hI.1).g hm2)) (upd_same V 7 _))
  ·intro D V zw1 a hR hI K hK
   obtain ⟨hM1, hB1, hG1⟩ := hI.1
   have ze2 := hR.frame.other (t := 2) (by kernel_rfl) rfl
   rw [if_pos (by rfl)]
   go_simp
   exact hK (.pointer (some ⟨gl, 0, none⟩)) _ (hI.next hR (by kernel_rfl) (ModD.refl _) (PB.quiet hI.1 (Mod.refl _ _) (HGs.out D 8 zw1 zw1 (hI.1).g (ModD.refl _))) (upd_same V 8 _))
  ·intro D V zw1 a hR hI K hK
   obtain ⟨hM1, hB1, hG1⟩ := hI.1
   have zd8 := hR.pred 8 (by kernel_rfl)
   have zF8 : V 8 = .pointer (some ⟨gl, 0, none⟩) := hI.2 8 zd8 rfl
   have zf8 := zF8; clear zF8
   have ze15 := hR.frame.done (t := 15) (j := 8) (by kernel_rfl) hR.ok zd8
   have zx := keepp HC1.out hM1
   simp at zx
   rw [if_pos (by rfl)]
   go_simp
   exact hK (.slice (some ⟨ga, oa, none⟩) al.length c) _ (hI.next hR (by kernel_rfl) (ModD.refl _) (PB.quiet hI.1 (Mod.refl _ _) (HGs.out D 9 zw1 zw1 (hI.1).g (ModD.refl _))) (upd_same V 9 _))
  ·intro D V zw1 a hR hI K hK
   obtain ⟨hM1, hB1, hG1⟩ := hI.1
   have ze3 := hR.frame.other (t := 3) (by kernel_rfl) rfl
   have zx := keepp HK.out hM1
   rw [if_pos (by rfl)]
   go_simp
   exact hK (.int .i64 (k : Int)) _ (hI.next hR (by kernel_rfl) (ModD.refl _) (PB.quiet hI.1 (Mod.refl _ _) (HGs.out D 10 zw1 zw1 (hI.1).g (ModD.refl _))) (upd_same V 10 _))
  ·intro D V zw1 a hR hI K hK
   obtain ⟨hM1, hB1, hG1⟩ := hI.1
   have zd9 := hR.pred 9 (by kernel_rfl)
   have zF9 : V 9 = .slice (some ⟨ga, oa, none⟩) al.length c := hI.2 9 zd9 rfl
   have zf9 := zF9; clear zF9
   have zd10 := hR.pred 10 (by kernel_rfl)
   have zF10 : V 10 = .int .i64 (k : Int) := hI.2 10 zd10 rfl
   have zf10 := zF10; clear zF10
   have ze16 := hR.frame.done (t := 16) (j := 9) (by kernel_rfl) hR.ok zd9
   have ze17 := hR.frame.done (t := 17) (j := 10) (by kernel_rfl) hR.ok zd10
   rw [if_pos (by rfl)]
   go_simp
   exact hK (.pointer (some ⟨ga, oa + k * 4, none⟩)) _ (hI.next hR (by kernel_rfl) (ModD.refl _) (PB.quiet hI.1 (Mod.refl _ _) (HGs.out D 11 zw1 zw1 (hI.1).g (ModD.refl _))) (upd_same V 11 _))
  ·intro D V zw1 a hR hI K hK
   obtain ⟨hM1, hB1, hG1⟩ := hI.1
   have zd11 := hR.pred 11 (by kernel_rfl)
   have zF11 : V 11 = .pointer (some ⟨ga, oa + k * 4, none⟩) := hI.2 11 zd11 rfl
   have zf11 := zF11; clear zF11
   have ze18 := hR.frame.done (t := 18) (j := 11) (by kernel_rfl) hR.ok zd11
   rw [if_pos (by rfl)]
   go_simp
   exact hK (.pointer (some ⟨ga, oa + k * 4 + 1, none⟩)) _ (hI.next hR (by kernel_rfl) (ModD.refl _) (PB.quiet hI.1 (Mod.refl _ _) (HGs.out D 12 zw1 zw1 (hI.1).g (ModD.refl _))) (upd_same V 12 _))
  ·intro D V zw1 a hR hI K hK
   obtain ⟨hM1, hB1, hG1⟩ := hI.1
   have zd12 := hR.pred 12 (by kernel_rfl)
   have zF12 : V 12 = .pointer (some ⟨ga, oa + k * 4 + 1, none⟩) := hI.2 12 zd12 rfl
   have zf12 := zF12; clear zF12
   have ze19 := hR.frame.done (t := 19) (j := 12) (by kernel_rfl) hR.ok zd12
   have zx := keepp HQ1.out hM1
   rw [if_pos (by rfl)]
   go_simp
   exact hK (.slice al[k].A al[k].ch.length al[k].c) _ (hI.next hR (by kernel_rfl) (ModD.refl _) (PB.quiet hI.1 (Mod.refl _ _) (HGs.out D 13 zw1 zw1 (hI.1).g (ModD.refl _))) (upd_same V 13 _))
  ·intro D V zw1 a hR hI K hK
   obtain ⟨hM1, hB1, hG1⟩ := hI.1
   have ze1 := hR.frame.other (t := 1) (by kernel_rfl) rfl
   rw [if_pos (by rfl)]
   go_simp
   exact hK (.string ⟨t.toArray⟩) _ (hI.next hR (by kernel_rfl) (ModD.refl _) (PB.quiet hI.1 (Mod.refl _ _) (HGs.out D 14 zw1 zw1 (hI.1).g (ModD.refl _))) (upd_same V 14 _))
  ·intro D V zw1 a hR hI K hK
   obtain ⟨hM1, hB1, hG1⟩ := hI.1
   have zd13 := hR.pred 13 (by kernel_rfl)
   have zF13 : V 13 = .slice al[k].A al[k].ch.length al[k].c := hI.2 13 zd13 rfl
   have zf13 := zF13; clear zF13
   have zd14 := hR.pred 14 (by kernel_rfl)
   have zF14 : V 14 = .string ⟨t.toArray⟩ := hI.2 14 zd14 rfl
   have zf14 := zF14; clear zF14
   have ze20 := hR.frame.done (t := 20) (j := 13) (by kernel_rfl) hR.ok zd13
   have ze21 := hR.frame.done (t := 21) (j := 14) (by kernel_rfl) hR.ok zd14
   rw [if_pos (by rfl)]
   go_simp
   refine (HIX.out zw1 ⟨hM1, hG1⟩ t).mono ?_
   rintro e zw2 ⟨he, hm2⟩
   rw [HP2.out] at he
   subst he
   exact hK (.int .i64 p2) _ (hI.next hR (by kernel_rfl) hm2 (PB.quiet hI.1 hm2.1 (HGs.out D 15 _ _ (hI.1).g hm2)) (upd_same V 15 _))
  ·intro D V zw1 a hR hI K hK
   obtain ⟨hM1, hB1, hG1⟩ := hI.1
   have zd7 := hR.pred 7 (by kernel_rfl)
   have zF7 : V 7 = .int .i64 p1 := hI.2 7 zd7 rfl
   have zf7 := zF7; clear zF7
   have zd15 := hR.pred 15 (by kernel_rfl)
   have zF15 : V 15 = .int .i64 p2 := hI.2 15 zd15 rfl
   have zf15 := zF15; clear zF15
   have ze14 := hR.frame.done (t := 14) (j := 7) (by kernel_rfl) hR.ok zd7
   have ze22 := hR.frame.done (t := 22) (j := 15) (by kernel_rfl) hR.ok zd15
   rw [if_pos (by rfl)]
   go_simp
   exact hK (.int .i64 (p1 - p2)) _ (hI.next hR (by kernel_rfl) (ModD.refl _) (PB.quiet hI.1 (Mod.refl _ _) (HGs.out D 16 zw1 zw1 (hI.1).g (ModD.refl _))) (upd_same V 16 _))
  ·intro D V zw1 a hR hI K hK
   obtain ⟨hM1, hB1, hG1⟩ := hI.1
   have zd16 := hR.pred 16 (by kernel_rfl)
   have zF16 : V 16 = .int .i64 (p1 - p2) := hI.2 16 zd16 rfl
   have zf16 := zF16; clear zF16
   have ze23 := hR.frame.done (t := 23) (j := 16) (by kernel_rfl) hR.ok zd16
   rw [if_pos (by rfl)]
   go_simp
   exact hK (.int .i64 (p1 - p2)) _ (hI.next hR (by kernel_rfl) (ModD.refl _) (PB.quiet hI.1 (Mod.refl _ _) (HGs.out D 17 zw1 zw1 (hI.1).g (ModD.refl _))) (upd_same V 17 _))
 ·intro D V w2 hD hI
  obtain ⟨hM1, hB1, hG1⟩ := hI.1
  have hMx := hM1
  clear hM1
  have hBx := hB1
  clear hB1
  have hGx := hG1
  clear hG1
  have zF0 : V 0 = .pointer (some ⟨gl, 0, none⟩) := hI.2 0 (hD 0 (by decide)) rfl
  have zf0 := zF0; clear zF0
  have zF1 : V 1 = .slice (some ⟨ga, oa, none⟩) al.length c := hI.2 1 (hD 1 (by decide)) rfl
  have zf1 := zF1; clear zF1
  have zF2 : V 2 = .int .i64 (k : Int) := hI.2 2 (hD 2 (by decide)) rfl
  have zf2 := zF2; clear zF2
  have zF3 : V 3 = .pointer (some ⟨ga, oa + k * 4, none⟩) := hI.2 3 (hD 3 (by decide)) rfl
  have zf3 := zF3; clear zF3
  have zF4 : V 4 = .pointer (some ⟨ga, oa + k * 4 + 1, none⟩) := hI.2 4 (hD 4 (by decide)) rfl
  have zf4 := zF4; clear zF4
  have zF5 : V 5 = .slice al[k].A al[k].ch.length al[k].c := hI.2 5 (hD 5 (by decide)) rfl
  have zf5 := zF5; clear zF5
  have zF6 : V 6 = .string ⟨s.toArray⟩ := hI.2 6 (hD 6 (by decide)) rfl
  have zf6 := zF6; clear zF6
  have zF7 : V 7 = .int .i64 p1 := hI.2 7 (hD 7 (by decide)) rfl
  have zf7 := zF7; clear zF7
  have zF8 : V 8 = .pointer (some ⟨gl, 0, none⟩) := hI.2 8 (hD 8 (by decide)) rfl
  have zf8 := zF8; clear zF8
  have zF9 : V 9 = .slice (some ⟨ga, oa, none⟩) al.length c := hI.2 9 (hD 9 (by decide)) rfl
  have zf9 := zF9; clear zF9
  have zF10 : V 10 = .int .i64 (k : Int) := hI.2 10 (hD 10 (by decide)) rfl
  have zf10 := zF10; clear zF10
  have zF11 : V 11 = .pointer (some ⟨ga, oa + k * 4, none⟩) := hI.2 11 (hD 11 (by decide)) rfl
  have zf11 := zF11; clear zF11
  have zF12 : V 12 = .pointer (some ⟨ga, oa + k * 4 + 1, none⟩) := hI.2 12 (hD 12 (by decide)) rfl
  have zf12 := zF12; clear zF12
  have zF13 : V 13 = .slice al[k].A al[k].ch.length al[k].c := hI.2 13 (hD 13 (by decide)) rfl
  have zf13 := zF13; clear zF13
  have zF14 : V 14 = .string ⟨t.toArray⟩ := hI.2 14 (hD 14 (by decide)) rfl
  have zf14 := zF14; clear zF14
  have zF15 : V 15 = .int .i64 p2 := hI.2 15 (hD 15 (by decide)) rfl
  have zf15 := zF15; clear zF15
  have zF16 : V 16 = .int .i64 (p1 - p2) := hI.2 16 (hD 16 (by decide)) rfl
  have zf16 := zF16; clear zF16
  have zF17 : V 17 = .int .i64 (p1 - p2) := hI.2 17 (hD 17 (by decide)) rfl
  have zf17 := zF17; clear zF17
  clear hI hD HGs
  simp only [frAll, Act.put, List.setIfInBounds_toArray, List.set_cons_zero, List.set_cons_succ, Nat.zero_add, Nat.reduceAdd, zf0, zf1, zf2, zf3, zf4, zf5, zf6, zf7, zf8, zf9, zf10, zf11, zf12, zf13, zf14, zf15, zf16, zf17]
  clear zf0 zf1 zf2 zf3 zf4 zf5 zf6 zf7 zf8 zf9 zf10 zf11 zf12 zf13 zf14 zf15 zf16 zf17
  clear V D
  go_wp2_with fail
  go_ret
  exact IntD.of HQ.out ⟨hMx, hGx⟩


set_option maxRecDepth 100000 in
set_option maxHeartbeats 4000000 in
theorem ord1_calls (w : World) (gl : Nat) (A A2 : Option Addr) (n c n2 c2 : Nat) (L : LayR) (x y : ChoR) (hB : Blk w gl 29 #[.slice A n c, .slice A2 n2 c2]) (hL : LayV w L (.agg #[.slice A n c, .slice A2 n2 c2])) (hLB : LayB L) (hx : ChoEl w x) (hy : ChoEl w y) (hk : 0 ≤ kIx L.asks x.field) :
  Calls Tryz.prog 135 #[.agg #[.string ⟨x.field.toArray⟩, .slice x.A x.ch.length x.c], .agg #[.string ⟨y.field.toArray⟩, .slice y.A y.ch.length y.c], .pointer (some ⟨gl, 0, none⟩)] w (IntD w (ordQ L.asks x y)) := by
 obtain ⟨xf, xA, xc, xs⟩ := x
 obtain ⟨yf, yA, yc, ys⟩ := y
 simp only at hk ⊢
 have hQ0 : ordQ L.asks ⟨xf, xA, xc, xs⟩ ⟨yf, yA, yc, ys⟩ = if kIx L.asks xf - kIx L.asks yf ≠ 0 then kIx L.asks xf - kIx L.asks yf else cmpQ (chCmp (chAt L.asks xf)) xs ys := rfl
 obtain ⟨k, hka⟩ : ∃ k, askIx L.asks xf = some k := by
  cases h : askIx L.asks xf with
  | none => unfold kIx at hk; rw [h] at hk; exact absurd hk (by decide)
  | some k => exact ⟨k, rfl⟩
 obtain ⟨hkl, hkf, hch, hkb⟩ := askIx_some hka
 have hkx : kIx L.asks xf = (k : Int) := by unfold kIx; rw [hka]
 have hcx : chAt L.asks xf = L.asks[k].ch := by unfold chAt; rw [hch]; rfl
 have hyb := kIx_bd L.asks yf
 have hlb := hLB.1
 have hch100 : L.asks[k].ch.length ≤ 100 := (hLB.2.2.1 _ (List.getElem_mem hkl)).2.1.1
 rw [hkx, hcx] at hQ0
 have hp : ModD w ((w.alloc (.cells #[.string ⟨xf.toArray⟩, .slice xA xs.length xc] 105)).alloc (.cells #[.string ⟨yf.toArray⟩, .slice yA ys.length yc] 105)) := (ModD.alloc _ _).al _
 have HP := Lib.hid hp
 have HBX := Lib.hid ((Blk.new w 105 #[.string ⟨xf.toArray⟩, .slice xA xs.length xc]).alloc (.cells #[.string ⟨yf.toArray⟩, .slice yA ys.length yc] 105))
 have HBY := Lib.hid (Blk.snd w (.cells #[.string ⟨xf.toArray⟩, .slice xA xs.length xc] 105) 105 #[.string ⟨yf.toArray⟩, .slice yA ys.length yc])
 have HAX := Lib.hid (fun W (h : ModD w W) => askD_calls W _ L xf (hL.pure h.1))
 have HAY := Lib.hid (fun W (h : ModD w W) => askD_calls W _ L yf (hL.pure h.1))
 rw [show askI L.asks xf = (k : Int) from hkx] at HAX
 rw [show askI L.asks yf = kIx L.asks yf from rfl] at HAY
 have HPL := Lib.hid (fun W (h : ModD w W) gk (hK : W.cell? ⟨gk, 0, none⟩ = some (.int .i64 (k : Int))) s t => place_calls W gl gk A n c k (.slice A2 n2 c2) L.asks s t (hB.modp h.1) hK (by obtain ⟨_, _, _, _, _, _, he, h1, _⟩ := hL; cases he; exact h1.pure h.1) hkl hch100)
 have HEX : Hid (Sl w 9 1 (.slice xA xs.length xc) (strsV xs)) := Lib.hid hx
 have HEY : Hid (Sl w 9 1 (.slice yA ys.length yc) (strsV ys)) := Lib.hid hy
 have HLB0 := Lib.hid hB
 have HQ := Lib.hid hQ0
 have hgl := hB.lt
 generalize ordQ L.asks ⟨xf, xA, xc, xs⟩ ⟨yf, yA, yc, ys⟩ = q at *
 generalize hky : kIx L.asks yf = ky at *
 have HKY := Lib.hid hky
 have hk100 : k ≤ 100 := by omega
 generalize L.asks[k].ch = cs at *
 clear hka hkf hkb hch hkx hcx hQ0 hp hL hLB hx hy hk hB hky hch100 hkl
 have hlb2 : ky ≤ 100 := by omega
 have hlb3 : -1 ≤ ky := by omega
 clear hlb hyb
 go_enter Tryz.func135, Tryz.ntmps135
 go_upto_region 1 with (fail)
 generalize ((w.alloc (.cells #[.string ⟨xf.toArray⟩, .slice xA xs.length xc] 105)).alloc (.cells #[.string ⟨yf.toArray⟩, .slice yA ys.length yc] 105)) = w2 at *
 generalize w.heap.size = g2 at *
 have hX := HLB0.out.modp HP.out.1
 have hY := HBX.out
 have c0 := hX.cell 0; have c1 := hX.cell 1; simp at c0 c1
 have d0 := hY.cell 0; have d1 := hY.cell 1; simp at d0 d1
 clear hX hY
 go_wp2_with fail
 refine (HAX.out _ HP.out).mono ?_
 rintro e w3 ⟨rfl, hm⟩
 have HP3 := Lib.hid (HP.out.trans hm)
 have HBX3 := Lib.hid (HBX.out.modp hm.1)
 have HBY3 := Lib.hid (HBY.out.modp hm.1)
 clear hm HP HBX HBY c0 c1 d0 d1
 go_upto_region 3 with (fail)
 have HP4 := Lib.hid (HP3.out.al (.cells #[.int .i64 (k : Int)] 3))
 have HBX4 := Lib.hid (HBX3.out.alloc (.cells #[.int .i64 (k : Int)] 3))
 have HBY4 := Lib.hid (HBY3.out.alloc (.cells #[.int .i64 (k : Int)] 3))
 have HBK4 := Lib.hid (Blk.new w3 3 #[.int .i64 (k : Int)])
 generalize (w3.alloc (.cells #[.int .i64 (k : Int)] 3)) = w4 at *
 generalize w3.heap.size = gk at *
 clear HP3 HBX3 HBY3 w3 w2
 have hwr : IntKind.i64.wrap ((k : Int) - ky) = (k : Int) - ky := IntWalk.i64_in _ (by omega)
 have HGs := Lib.hid (show ∀ (D : Nat → Bool) (zzi : Nat) (zq zq' : World), (fun _ zq => (fun Z => ModD w4 Z) zq) D zq → ModD zq zq' → (fun _ zq => (fun Z => ModD w4 Z) zq) (upd D zzi true) zq' from by intro D zzi zq zq' h hm; (exact h.trans hm))
 refine wp_region_inv (by kernel_rfl) (by kernel_rfl) (InvF (R := ModD) [.is (.int .i64 (k : Int)),
   .is (.agg #[.slice A n c, .slice A2 n2 c2]),
   .is (.pointer (some ⟨g2 + 1, 0, none⟩)),
   .is (.string ⟨yf.toArray⟩),
   .is (.int .i64 ky),
   .is (.int .i64 ((k : Int) - ky)),
   .is (.int .i64 ((k : Int) - ky))]
   (PB w (fun _ => False) w4.heap.size (fun _ zq => (fun Z => ModD w4 Z) zq))) (InvF.start (PB.start HP4.out.1 (Nat.le_refl _) (((ModD.refl _).drewN 1)))) ?_ ?_
 ·refine .cons ?_ (.cons ?_ (.cons ?_ (.cons ?_ (.cons ?_ (.cons ?_ (.cons ?_ .nil))))))
  ·intro D V zw1 a hR hI K hK
   obtain ⟨hM1, hB1, hG1⟩ := hI.1
   have ze6 := hR.frame.other (t := 6) (by kernel_rfl) rfl
   have zx := (HBK4.out.modp hG1.1).cell 0
   simp at zx
   rw [if_pos (by rfl)]
   go_simp
   exact hK (.int .i64 (k : Int)) _ (hI.next hR (by kernel_rfl) (ModD.refl _) (PB.quiet hI.1 (Mod.refl _ _) (HGs.out D 0 zw1 zw1 (hI.1).g (ModD.refl _))) (upd_same V 0 _))
  ·intro D V zw1 a hR hI K hK
   obtain ⟨hM1, hB1, hG1⟩ := hI.1
   have ze2 := hR.frame.other (t := 2) (by kernel_rfl) rfl
   have zb := HLB0.out.modp hM1
   have zx0 := zb.cell 0; have zx1 := zb.cell 1
   simp at zx0 zx1
   rw [if_pos (by rfl)]
   go_simp
   exact hK (.agg #[.slice A n c, .slice A2 n2 c2]) _ (hI.next hR (by kernel_rfl) (ModD.refl _) (PB.quiet hI.1 (Mod.refl _ _) (HGs.out D 1 zw1 zw1 (hI.1).g (ModD.refl _))) (upd_same V 1 _))
  ·intro D V zw1 a hR hI K hK
   obtain ⟨hM1, hB1, hG1⟩ := hI.1
   have ze4 := hR.frame.other (t := 4) (by kernel_rfl) rfl
   rw [if_pos (by rfl)]
   go_simp
   exact hK (.pointer (some ⟨g2 + 1, 0, none⟩)) _ (hI.next hR (by kernel_rfl) (ModD.refl _) (PB.quiet hI.1 (Mod.refl _ _) (HGs.out D 2 zw1 zw1 (hI.1).g (ModD.refl _))) (upd_same V 2 _))
  ·intro D V zw1 a hR hI K hK
   obtain ⟨hM1, hB1, hG1⟩ := hI.1
   have zd2 := hR.pred 2 (by kernel_rfl)
   have zF2 : V 2 = .pointer (some ⟨g2 + 1, 0, none⟩) := hI.2 2 zd2 rfl
   have zf2 := zF2; clear zF2
   have ze16 := hR.frame.done (t := 16) (j := 2) (by kernel_rfl) hR.ok zd2
   have zx := (HBY4.out.modp hG1.1).cell 0
   simp at zx
   rw [if_pos (by rfl)]
   go_simp
   exact hK (.string ⟨yf.toArray⟩) _ (hI.next hR (by kernel_rfl) (ModD.refl _) (PB.quiet hI.1 (Mod.refl _ _) (HGs.out D 3 zw1 zw1 (hI.1).g (ModD.refl _))) (upd_same V 3 _))
  ·intro D V zw1 a hR hI K hK
   obtain ⟨hM1, hB1, hG1⟩ := hI.1
   have zd1 := hR.pred 1 (by kernel_rfl)
   have zF1 : V 1 = .agg #[.slice A n c, .slice A2 n2 c2] := hI.2 1 zd1 rfl
   have zf1 := zF1; clear zF1
   have zd3 := hR.pred 3 (by kernel_rfl)
   have zF3 : V 3 = .string ⟨yf.toArray⟩ := hI.2 3 zd3 rfl
   have zf3 := zF3; clear zF3
   have ze15 := hR.frame.done (t := 15) (j := 1) (by kernel_rfl) hR.ok zd1
   have ze17 := hR.frame.done (t := 17) (j := 3) (by kernel_rfl) hR.ok zd3
   rw [if_pos (by rfl)]
   go_simp
   refine (HAY.out zw1 (HP4.out.trans hG1)).mono ?_
   rintro e zw2 ⟨rfl, hm2⟩
   exact hK (.int .i64 ky) _ (hI.next hR (by kernel_rfl) hm2 (PB.quiet hI.1 hm2.1 (HGs.out D 4 _ _ (hI.1).g hm2)) (upd_same V 4 _))
  ·intro D V zw1 a hR hI K hK
   obtain ⟨hM1, hB1, hG1⟩ := hI.1
   have zd0 := hR.pred 0 (by kernel_rfl)
   have zF0 : V 0 = .int .i64 (k : Int) := hI.2 0 zd0 rfl
   have zf0 := zF0; clear zF0
   have zd4 := hR.pred 4 (by kernel_rfl)
   have zF4 : V 4 = .int .i64 ky := hI.2 4 zd4 rfl
   have zf4 := zF4; clear zF4
   have ze14 := hR.frame.done (t := 14) (j := 0) (by kernel_rfl) hR.ok zd0
   have ze18 := hR.frame.done (t := 18) (j := 4) (by kernel_rfl) hR.ok zd4
   rw [if_pos (by rfl)]
   go_simp
   exact hK (.int .i64 ((k : Int) - ky)) _ (hI.next hR (by kernel_rfl) (ModD.refl _) (PB.quiet hI.1 (Mod.refl _ _) (HGs.out D 5 zw1 zw1 (hI.1).g (ModD.refl _))) (upd_same V 5 _))
  ·intro D V zw1 a hR hI K hK
   obtain ⟨hM1, hB1, hG1⟩ := hI.1
   have zd5 := hR.pred 5 (by kernel_rfl)
   have zF5 : V 5 = .int .i64 ((k : Int) - ky) := hI.2 5 zd5 rfl
   have zf5 := zF5; clear zF5
   have ze19 := hR.frame.done (t := 19) (j := 5) (by kernel_rfl) hR.ok zd5
   rw [if_pos (by rfl)]
   go_simp
   exact hK (.int .i64 ((k : Int) - ky)) _ (hI.next hR (by kernel_rfl) (ModD.refl _) (PB.quiet hI.1 (Mod.refl _ _) (HGs.out D 6 zw1 zw1 (hI.1).g (ModD.refl _))) (upd_same V 6 _))
 ·intro D V w5 hD hI
  obtain ⟨hM1, hB1, hG1⟩ := hI.1
  have hMx := hM1
  clear hM1
  have hBx := hB1
  clear hB1
  have hGx := hG1
  clear hG1
  have zF0 : V 0 = .int .i64 (k : Int) := hI.2 0 (hD 0 (by decide)) rfl
  have zf0 := zF0; clear zF0
  have zF1 : V 1 = .agg #[.slice A n c, .slice A2 n2 c2] := hI.2 1 (hD 1 (by decide)) rfl
  have zf1 := zF1; clear zF1
  have zF2 : V 2 = .pointer (some ⟨g2 + 1, 0, none⟩) := hI.2 2 (hD 2 (by decide)) rfl
  have zf2 := zF2; clear zF2
  have zF3 : V 3 = .string ⟨yf.toArray⟩ := hI.2 3 (hD 3 (by decide)) rfl
  have zf3 := zF3; clear zF3
  have zF4 : V 4 = .int .i64 ky := hI.2 4 (hD 4 (by decide)) rfl
  have zf4 := zF4; clear zF4
  have zF5 : V 5 = .int .i64 ((k : Int) - ky) := hI.2 5 (hD 5 (by decide)) rfl
  have zf5 := zF5; clear zF5
  have zF6 : V 6 = .int .i64 ((k : Int) - ky) := hI.2 6 (hD 6 (by decide)) rfl
  have zf6 := zF6; clear zF6
  clear hI hD HGs
  simp only [frAll, Act.put, List.setIfInBounds_toArray, List.set_cons_zero, List.set_cons_succ, Nat.zero_add, Nat.reduceAdd, zf0, zf1, zf2, zf3, zf4, zf5, zf6]
  clear zf0 zf1 zf2 zf3 zf4 zf5 zf6
  clear V D
  have HP5 := Lib.hid (HP4.out.trans hGx)
  have HBX5 := Lib.hid (HBX4.out.modp hGx.1)
  have HBY5 := Lib.hid (HBY4.out.modp hGx.1)
  have HBK5 := Lib.hid (HBK4.out.modp hGx.1)
  clear hMx hBx hGx HP4 HBX4 HBY4 HBK4 HAX HAY hwr
  by_cases hd : (k : Int) - ky = 0
  ·have HQ2 : Hid (q = cmpQ (chCmp cs) xs ys) := Lib.hid (by rw [HQ.out, if_neg (by omega)])
   have hd' : ((k : Int) - ky != 0) = false := by simpa using hd
   have hX := HBX5.out
   have hY := HBY5.out
   have c0 := hX.cell 0; have c1 := hX.cell 1; simp at c0 c1
   have d0 := hY.cell 0; have d1 := hY.cell 1; simp at d0 d1
   have HCF := Lib.hid (compS2_calls w5 _ _ xs ys 136 (.pointer (some ⟨gl, 0, none⟩)) (.pointer (some ⟨gk, 0, none⟩)) (chCmp cs) (HEX.out.pure HP5.out.1) (HEY.out.pure HP5.out.1) (fun _ _ _ => rfl) (fun s t W _ _ hm => HPL.out W (HP5.out.trans hm) gk (by have h := (HBK5.out.modp hm.1).cell 0; simpa using h) s t))
   clear hX hY hd HQ HPL
   go_wp2_with fail
   refine HCF.out.mono ?_
   rintro e w6 ⟨rfl, hm⟩
   go_wp2_with fail
   go_ret
   exact IntD.of HQ2.out (HP5.out.trans hm)
  ·have HQ2 : Hid (q = (k : Int) - ky) := Lib.hid (by rw [HQ.out, if_pos hd])
   have hd' : ((k : Int) - ky != 0) = true := by simpa using hd
   clear hd HQ
   go_wp2_with fail
   go_ret
   exact IntD.of HQ2.out HP5.out

end Go.Proofs.YtkkndblcejmmjaaGreatDoor
