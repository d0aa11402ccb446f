/- Texts of the proof of ValueChecks, put together: LayH. -/
import Derived.Test.YtinjblkhblhlpaaDoorValueChecksZ20
import Derived.Test.YtinjblkhblhlpaaDoorValueChecksZ23
import Derived.Test.YtinjblkhblhlpaaDoorValueChecksZ24
/- CheckValues, Broken of the program; ValuesFault of the reference. -/
namespace Go.Proofs.YtinjblkhblhlpaaDoor
set_option linter.unusedVariables false
set_option linter.unusedSimpArgs false
open Go.RowKit

def VsF (gl gv : Nat) : Array Value := #[.func (.func 21) #[] #[.pointer (some ⟨gl, 0, none⟩)], .func (.func 22) #[] #[.pointer (some ⟨gl, 0, none⟩), .pointer (some ⟨gv, 0, none⟩)]]
set_option maxRecDepth 100000 in
set_option maxHeartbeats 4000000 in
theorem vfirst_calls (w : World) (g c gl gv n : Nat) (hn : n = 2) (e1 e2 : Int) (hb : Blk w g 56 (VsF gl gv)) (hc : n ≤ c) (hc2 : c ≤ 1000) (h1 : ∀ W, Pure w W → Calls Tryd.prog 21 #[.pointer (some ⟨gl, 0, none⟩)] W (IntPost W e1)) (h2 : ∀ W, Pure w W → Calls Tryd.prog 22 #[.pointer (some ⟨gl, 0, none⟩), .pointer (some ⟨gv, 0, none⟩)] W (IntPost W e2)) :
    Calls Tryd.prog 20 #[.slice (some ⟨g, 0, none⟩) n c] w (IntPost w (if e1 ≠ 0 then e1 else e2)) := by
  have H1 := Lib.hid h1
  have H2 := Lib.hid h2
  have HB := Lib.hid hb
  clear h1 h2 hb
  obtain ⟨er, her⟩ : ∃ er, (if e1 ≠ 0 then e1 else e2) = er := ⟨_, rfl⟩
  have HER := Lib.hid her
  rw [her]
  clear her
  go_enter Tryd.func20, Tryd.ntmps20
  go_wp2_with fail
  go_loopg [8] n (fun gk i wr => ∃ k : Nat, n - k = gk ∧ k ≤ n ∧ i = .int .i64 (k : Int) ∧ (0 < k → e1 = 0) ∧ (1 < k → e2 = 0) ∧ Pure w wr)
  case atStart => exact ⟨0, by omega, by omega, rfl, fun h => by omega, fun h => by omega, Mod.refl _ _⟩
  case round =>
    obtain ⟨k, rfl, hk, rfl, hz1, hz2, hm⟩ := hrel
    have hB := HB.out.modp hm
    unfold VsF at hB
    have c0 := hB.cell 0; have c1 := hB.cell 1; simp at c0 c1
    clear hB
    have hn2 := Nat.le_of_eq hn
    have hn3 := Nat.le_of_eq hn.symm
    clear hn
    by_cases hk0 : k = 0
    · subst hk0
      have i1 : (0 : Int) < (n : Int) := by omega
      have HC := Lib.hid (H1.out _ hm)
      clear hz1 hz2
      go_wp2_with fail
      refine HC.out.mono ?_
      rintro e w1 ⟨rfl, hm1⟩
      have hm2 := hm.trans hm1
      clear HC hm hm1
      by_cases h0 : e1 = 0
      · have h0' : (e1 != 0) = false := by simpa using h0
        have H0 := Lib.hid h0
        clear h0
        go_wp2_with fail
        go_roundg (n - 1)
        case measure => omega
        case rel => exact ⟨1, rfl, by omega, rfl, fun _ => H0.out, fun h => by omega, hm2⟩
      · have h0' : (e1 != 0) = true := by simpa using h0
        have H0 := Lib.hid h0
        clear h0
        go_wp2_with fail
        go_ret
        exact IntPost.of (by rw [← HER.out, if_pos H0.out]) hm2
    · by_cases hk1 : k = 1
      · subst hk1
        have i1 : (1 : Int) < (n : Int) := by omega
        have HC := Lib.hid (H2.out _ hm)
        have H0 := Lib.hid (hz1 (by omega))
        clear hz1 hz2 hk0
        go_wp2_with fail
        refine HC.out.mono ?_
        rintro e w1 ⟨rfl, hm1⟩
        have hm2 := hm.trans hm1
        clear HC hm hm1
        by_cases h2 : e2 = 0
        · have h0' : (e2 != 0) = false := by simpa using h2
          have H2z := Lib.hid h2
          clear h2
          go_wp2_with fail
          go_roundg (n - 2)
          case measure => omega
          case rel => exact ⟨2, rfl, by omega, rfl, fun _ => H0.out, fun _ => H2z.out, hm2⟩
        · have h0' : (e2 != 0) = true := by simpa using h2
          clear h2
          go_wp2_with fail
          go_ret
          exact IntPost.of (by rw [← HER.out, if_neg (by rw [H0.out]; simp)]) hm2
      · obtain rfl : k = n := by omega
        have HE : Hid (er = 0) := Lib.hid (by rw [← HER.out, if_neg (by rw [hz1 (by omega)]; simp), hz2 (by omega)])
        clear hz1 hz2 hk0 hk1
        go_wp2_with fail
        go_ret
        exact IntPost.of HE.out hm
/-- What is wrong with a layout and values. -/
def lvE (L : LayR) (v : List ChoR) : Int := if layE L ≠ 0 then layE L else valsE L v
set_option maxRecDepth 100000 in
set_option maxHeartbeats 4000000 in
theorem checkValues_calls (w : World) (vl vv : Value) (L : LayR) (v : List ChoR) (hL : LayV w L vl) (hb : LayB L) (hV : Vals w vv v) (hvl : v.length ≤ 1000) (hvz : ∀ c ∈ v, ChoB c) : Calls Tryd.prog 10 #[vl, vv] w (IntPost w (lvE L v)) := by
  have HC := Lib.hid (fun W (h : Pure w W) => checkLayout_calls W vl L (hL.pure h) hb)
  have HE := Lib.hid (fun W (h : Pure w W) => valuesError_calls W vl vv L v (hL.pure h) hb (hV.pure h) hvl hvz)
  have HLE : Hid (lvE L v = if layE L ≠ 0 then layE L else valsE L v) := Lib.hid rfl
  obtain ⟨A, n, c, A2, n2, c2, rfl, hA, hR⟩ := hL
  obtain ⟨AV, nv, cv, rfl⟩ := hV.1.form
  have HB0 := Lib.hid (Blk.new w 29 #[.slice A n c, .slice A2 n2 c2])
  have HP0 := Lib.hid (pure_alloc w (.cells #[.slice A n c, .slice A2 n2 c2] 29))
  have hB0 := HB0.out
  have c0 := hB0.cell 0; have c1 := hB0.cell 1; simp at c0 c1
  generalize lvE L v = le at *
  generalize layE L = e1 at *
  generalize valsE L v = e2 at *
  clear hA hR hV hB0
  go_enter Tryd.func10, Tryd.ntmps10
  go_wp2_with fail
  refine (HC.out _ HP0.out).mono ?_
  rintro e w1 ⟨rfl, hm⟩
  have hB1 := HB0.out.modp hm
  have HM := Lib.hid (HP0.out.trans hm)
  have d0 := hB1.cell 0; have d1 := hB1.cell 1; simp at d0 d1
  clear c0 c1 HC hm hB1
  by_cases h0 : e1 = 0
  · subst h0
    have HL := HLE.out
    rw [if_neg (by simp)] at HL
    clear HLE
    go_wp2_with fail
    refine (HE.out _ HM.out).mono ?_
    rintro e w2 ⟨rfl, hm2⟩
    have HP := Lib.hid (HM.out.trans hm2)
    clear HE d0 d1 hm2
    go_wp2_with fail
    go_ret
    exact IntPost.of HL HP.out
  · have hne : (e1 != 0) = true := by simpa using h0
    have HL := HLE.out
    rw [if_pos h0] at HL
    clear HLE h0 HE
    go_wp2_with fail
    go_ret
    exact IntPost.of HL HM.out
def BrnPost (w : World) (L : LayR) (v : List ChoR) (e : Ending) (w' : World) : Prop :=
  ∃ (A : Option Addr) (m c : Nat), e = .returned (.tuple #[.slice A m c, .int .i64 (lvE L v)]) ∧ (lvE L v ≠ 0 → m = 0) ∧ (lvE L v = 0 → Sl w' 3 1 (.slice A m c) (ints (brkI L v L.rules.length))) ∧ Pure w w'
set_option maxRecDepth 100000 in
set_option maxHeartbeats 4000000 in
theorem Broken_calls (w : World) (vl vv : Value) (L : LayR) (v : List ChoR) (hL : LayV w L vl) (hb : LayB L) (hV : Vals w vv v) (hvl : v.length ≤ 1000) (hvz : ∀ c ∈ v, ChoB c) : Calls Tryd.prog 6 #[vl, vv] w (BrnPost w L v) := by
  have HC := Lib.hid (fun W (h : Pure w W) => checkValues_calls W vl vv L v (hL.pure h) hb (hV.pure h) hvl hvz)
  have HE := Lib.hid (fun W (h : Pure w W) => broken_calls W vl vv L v (hL.pure h) (hV.pure h) (by have := hb.2.1; omega) hvl (fun c hc => by have := (hvz c hc).2.1; omega))
  unfold BrkPost at HE
  obtain ⟨A, n, c, A2, n2, c2, rfl, hA, hR⟩ := hL
  obtain ⟨AV, nv, cv, rfl⟩ := hV.1.form
  have HB0 := Lib.hid (Blk.new w 29 #[.slice A n c, .slice A2 n2 c2])
  have HP0 := Lib.hid (pure_alloc w (.cells #[.slice A n c, .slice A2 n2 c2] 29))
  have hB0 := HB0.out
  have c0 := hB0.cell 0; have c1 := hB0.cell 1; simp at c0 c1
  obtain ⟨le, hle⟩ : ∃ le, lvE L v = le := ⟨_, rfl⟩
  rw [hle] at HC
  have HLE := Lib.hid hle
  clear hA hR hV hB0 hle
  go_enter Tryd.func6, Tryd.ntmps6
  go_wp2_with fail
  refine (HC.out _ HP0.out).mono ?_
  rintro e w1 ⟨rfl, hm⟩
  have hB1 := HB0.out.modp hm
  have HM := Lib.hid (HP0.out.trans hm)
  have d0 := hB1.cell 0; have d1 := hB1.cell 1; simp at d0 d1
  clear c0 c1 HC hm hB1
  by_cases h0 : le = 0
  · subst h0
    go_wp2_with fail
    refine (HE.out _ HM.out).mono ?_
    rintro e w2 ⟨A8, c8, rfl, hs, hm2⟩
    have HS := Lib.hid hs
    have HP := Lib.hid (HM.out.trans hm2)
    clear HE d0 d1 hm2 hs
    go_wp2_with fail
    refine bodyPost_ret (v := .tuple #[.slice A8 (brkI L v L.rules.length).length c8, .int .i64 0]) (by simp [results, Tryd.results6, go_sem]) rfl ?_
    exact ⟨A8, _, c8, by rw [HLE.out], fun h => absurd HLE.out h, fun _ => HS.out, HP.out⟩
  · have hne : (le != 0) = true := by simpa using h0
    have H0 := Lib.hid h0
    clear h0 HE
    go_wp2_with fail
    refine bodyPost_ret (v := .tuple #[.slice none 0 0, .int .i64 le]) (by simp [results, Tryd.results6, go_sem]) rfl ?_
    exact ⟨none, 0, 0, by rw [HLE.out], fun _ => rfl, fun h => absurd (HLE.out.symm.trans h) H0.out, HM.out⟩
set_option maxRecDepth 100000 in
set_option maxHeartbeats 4000000 in
theorem vf1_calls (w : World) (gl : Nat) (A A2 : Option Addr) (n c n2 c2 : Nat) (L : LayR) (hB : Blk w gl 29 #[.slice A n c, .slice A2 n2 c2]) (hL : LayV w L (.agg #[.slice A n c, .slice A2 n2 c2])) (hb : LayB L) : Calls Tryd.prog 21 #[.pointer (some ⟨gl, 0, none⟩)] w (IntPost w (layE L)) := by
  have HC := Lib.hid (layoutFault_calls w _ L hL hb)
  generalize layE L = e1 at *
  have c0 := hB.cell 0; have c1 := hB.cell 1; simp at c0 c1
  clear hL hB
  go_enter Tryd.func21, Tryd.ntmps21
  go_wp2_with fail
  refine HC.out.mono ?_
  rintro e w1 ⟨rfl, hm⟩
  have HM := Lib.hid hm
  clear c0 c1 HC hm
  go_wp2_with fail
  go_ret
  exact IntPost.of rfl HM.out
set_option maxRecDepth 100000 in
set_option maxHeartbeats 4000000 in
theorem vf2_calls (w : World) (gl gv : Nat) (A A2 AV : Option Addr) (n c n2 c2 nv cv : Nat) (L : LayR) (v : List ChoR) (hB : Blk w gl 29 #[.slice A n c, .slice A2 n2 c2]) (hBv : w.cell? ⟨gv, 0, none⟩ = some (.slice AV nv cv)) (hL : LayV w L (.agg #[.slice A n c, .slice A2 n2 c2])) (hb : LayB L) (hV : Vals w (.slice AV nv cv) v) (hvl : v.length ≤ 1000) (hvz : ∀ c ∈ v, ChoB c) :
    Calls Tryd.prog 22 #[.pointer (some ⟨gl, 0, none⟩), .pointer (some ⟨gv, 0, none⟩)] w (IntPost w (valsE L v)) := by
  have HC := Lib.hid (valuesRight_calls w _ _ L v hL hb hV hvl hvz)
  generalize valsE L v = e1 at *
  have c0 := hB.cell 0; have c1 := hB.cell 1; simp at c0 c1
  clear hL hB hV hvz
  go_enter Tryd.func22, Tryd.ntmps22
  go_wp2_with fail
  refine HC.out.mono ?_
  rintro e w1 ⟨rfl, hm⟩
  have HM := Lib.hid hm
  clear c0 c1 hBv HC hm
  go_wp2_with fail
  go_ret
  exact IntPost.of rfl HM.out
set_option maxRecDepth 100000 in
set_option maxHeartbeats 4000000 in
theorem valuesFault_calls (w : World) (vl vv : Value) (L : LayR) (v : List ChoR) (hL : LayV w L vl) (hb : LayB L) (hV : Vals w vv v) (hvl : v.length ≤ 1000) (hvz : ∀ c ∈ v, ChoB c) : Calls Tryd.prog 7 #[vl, vv] w (IntPost w (lvE L v)) := by
  obtain ⟨A, n, c, A2, n2, c2, rfl, hA, hR⟩ := hL
  obtain ⟨AV, nv, cv, rfl⟩ := hV.1.form
  have B0 := (Blk.new w 29 #[.slice A n c, .slice A2 n2 c2]).alloc (.cells #[.slice AV nv cv] 31)
  have B1 := Blk.snd w (.cells #[.slice A n c, .slice A2 n2 c2] 29) 31 #[.slice AV nv cv]
  have M0 : Pure w ((w.alloc (.cells #[.slice A n c, .slice A2 n2 c2] 29)).alloc (.cells #[.slice AV nv cv] 31)) := (pure_alloc _ _).trans (pure_alloc _ _)
  have hLW : ∀ W, Pure w W → LayV W L (.agg #[.slice A n c, .slice A2 n2 c2]) := fun W h => ⟨A, n, c, A2, n2, c2, rfl, hA.pure h, Sl.pure hR h⟩
  have HF1 : ∀ W, Pure ((w.alloc (.cells #[.slice A n c, .slice A2 n2 c2] 29)).alloc (.cells #[.slice AV nv cv] 31)) W → Calls Tryd.prog 21 #[.pointer (some ⟨w.heap.size, 0, none⟩)] W (IntPost W (layE L)) := fun W h => vf1_calls W w.heap.size A A2 n c n2 c2 L (B0.modp h) (hLW W (M0.trans h)) hb
  have HF2 : ∀ W, Pure ((w.alloc (.cells #[.slice A n c, .slice A2 n2 c2] 29)).alloc (.cells #[.slice AV nv cv] 31)) W → Calls Tryd.prog 22 #[.pointer (some ⟨w.heap.size, 0, none⟩), .pointer (some ⟨w.heap.size + 1, 0, none⟩)] W (IntPost W (valsE L v)) := fun W h => vf2_calls W w.heap.size (w.heap.size + 1) A A2 AV n c n2 c2 nv cv L v (B0.modp h) (by have := (B1.modp h).cell 0; simpa using this) (hLW W (M0.trans h)) hb (hV.pure (M0.trans h)) hvl hvz
  have HFR := Lib.hid (vfirst_calls (((w.alloc (.cells #[.slice A n c, .slice A2 n2 c2] 29)).alloc (.cells #[.slice AV nv cv] 31)).alloc (.cells (VsF w.heap.size (w.heap.size + 1)) 56)) (w.heap.size + 1 + 1) 2 w.heap.size (w.heap.size + 1) 2 rfl (layE L) (valsE L v) (Blk.new' (by simp)) (by omega) (by omega)
    (fun W h => HF1 W ((pure_alloc _ _).trans h)) (fun W h => HF2 W ((pure_alloc _ _).trans h)))
  have HM := Lib.hid (M0.alloc (.cells (VsF w.heap.size (w.heap.size + 1)) 56))
  have HLE : Hid (lvE L v = if layE L ≠ 0 then layE L else valsE L v) := Lib.hid rfl
  generalize lvE L v = le at *
  generalize (if layE L ≠ 0 then layE L else valsE L v) = e1 at *
  unfold VsF at HFR HM
  clear B0 B1 M0 hLW HF1 HF2 hA hR hV hvz
  go_enter Tryd.func7, Tryd.ntmps7
  go_wp2_with fail
  refine HFR.out.mono ?_
  rintro e w1 ⟨rfl, hm⟩
  have HP := Lib.hid (HM.out.trans hm)
  clear HFR HM hm
  go_wp2_with fail
  go_ret
  exact IntPost.of HLE.out HP.out

end Go.Proofs.YtinjblkhblhlpaaDoor
