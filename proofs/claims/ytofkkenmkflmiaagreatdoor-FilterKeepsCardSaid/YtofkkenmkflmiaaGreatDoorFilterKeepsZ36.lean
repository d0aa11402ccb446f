/- Texts of the proof of FilterKeeps, put together: ItmE, ItmF. -/
import Derived.Test.YtofkkenmkflmiaaGreatDoorFilterKeepsZ12
import Derived.Test.YtofkkenmkflmiaaGreatDoorFilterKeepsZ23
import Derived.Test.YtofkkenmkflmiaaGreatDoorFilterKeepsZ29
import Derived.Deep.DeepCutAuto
/- The errors of one item: CheckItem of package intake, ItemFault of the reference. -/
namespace Go.Proofs.YtofkkenmkflmiaaGreatDoor
set_option linter.unusedVariables false
set_option linter.unusedSimpArgs false
open Go.RowKit

theorem key_any (W : World) (l : Str) (h : l.length ≤ 1000000) : Calls Tryz.prog 51 #[.string ⟨l.toArray⟩] W (BoolPost W (keyB l)) := by
  refine (key_calls W ⟨l.toArray⟩ (by simpa [ByteArray.size] using h)).mono ?_
  rintro e w' ⟨rfl, rfl⟩
  exact ⟨rfl, Mod.refl _ _⟩
theorem rkey_any (W : World) (l : Str) (h : l.length ≤ 1000000) : Calls Tryz.prog 71 #[.string ⟨l.toArray⟩] W (BoolPost W (keyB l)) :=
  rkey_calls W ⟨l.toArray⟩ (by simpa [ByteArray.size] using h)
theorem plain_any (W : World) (l : Str) (h : l.length ≤ 1000000) (hE : Env W) : Calls Tryz.prog 168 #[.string ⟨l.toArray⟩] W (BoolPost W (plainB l)) :=
  plain_calls W ⟨l.toArray⟩ (by simpa [ByteArray.size] using h) hE
theorem rplain_any (W : World) (l : Str) (h : l.length ≤ 1000000) (hE : Env W) : Calls Tryz.prog 104 #[.string ⟨l.toArray⟩] W (BoolPost W (plainB l)) := rplain_calls W l h hE
theorem text_any (W : World) (l : Str) (h : l.length ≤ 1000000) (hE : Env W) : Calls Tryz.prog 170 #[.string ⟨l.toArray⟩] W (BoolPost W (textB l)) := text_calls W l h hE
theorem rtext_any (W : World) (l : Str) (h : l.length ≤ 1000000) (hE : Env W) : Calls Tryz.prog 105 #[.string ⟨l.toArray⟩] W (BoolPost W (textB l)) := isText_calls W l h hE
set_option maxHeartbeats 400000 in
theorem moment_calls (n : Int) (w : World) : Calls Tryz.prog 169 #[.int .i64 n] w (BoolSame w (inB n 0 5761439)) := by
  go_enter Tryz.func169, Tryz.ntmps169
  go_wp2_with fail
  refine (in_calls _ _ _ _).mono ?_
  rintro e w' ⟨rfl, rfl⟩
  go_wp2_with fail
  go_ret
  exact BoolSame.of rfl
theorem rmoment_calls (n : Int) (w : World) : Calls Tryz.prog 103 #[.int .i64 n, .int .i64 0, .int .i64 5761439] w (BoolSame w (inB n 0 5761439)) := rin_calls _ _ _ _

/-- The word of a kind. -/
def kwS (n : Int) : Str := if n = 1 then [109, 97, 105, 108] else if n = 2 then [102, 105, 108, 101] else if n = 3 then [98, 111, 120] else if n = 4 then [110, 111, 116, 101] else []
theorem kwS_empty (n : Int) : (kwS n).isEmpty = !inB n 1 4 := by
  unfold kwS inB
  by_cases h1 : n = 1
  · subst h1; rfl
  by_cases h2 : n = 2
  · subst h2; rfl
  by_cases h3 : n = 3
  · subst h3; rfl
  by_cases h4 : n = 4
  · subst h4; rfl
  rw [if_neg h1, if_neg h2, if_neg h3, if_neg h4, decide_eq_false (by omega)]
  rfl
theorem kwS_len (n : Int) : (kwS n).length ≤ 4 := by
  unfold kwS
  split
  · decide
  split
  · decide
  split
  · decide
  split
  · decide
  · decide
set_option maxHeartbeats 400000 in
theorem kindWord_calls (n : Int) (w : World) : Calls Tryz.prog 50 #[.int .i64 n] w (fun e w' => e = .returned (.string ⟨(kwS n).toArray⟩) ∧ w = w') := by
  by_cases h1 : n = 1
  · subst h1
    go_enter Tryz.func50, Tryz.ntmps50
    go_wp2_with fail
    go_ret
    exact ⟨rfl, rfl⟩
  by_cases h2 : n = 2
  · subst h2
    go_enter Tryz.func50, Tryz.ntmps50
    go_wp2_with fail
    go_ret
    exact ⟨rfl, rfl⟩
  by_cases h3 : n = 3
  · subst h3
    go_enter Tryz.func50, Tryz.ntmps50
    go_wp2_with fail
    go_ret
    exact ⟨rfl, rfl⟩
  by_cases h4 : n = 4
  · subst h4
    go_enter Tryz.func50, Tryz.ntmps50
    go_wp2_with fail
    go_ret
    exact ⟨rfl, rfl⟩
  have g1 : (n == 1) = false := by simpa using h1
  have g2 : (n == 2) = false := by simpa using h2
  have g3 : (n == 3) = false := by simpa using h3
  have g4 : (n == 4) = false := by simpa using h4
  go_enter Tryz.func50, Tryz.ntmps50
  go_wp2_with fail
  go_ret
  exact ⟨by unfold kwS; rw [if_neg h1, if_neg h2, if_neg h3, if_neg h4]; rfl, rfl⟩


set_option maxRecDepth 100000 in
set_option maxHeartbeats 8000000 in
theorem checkItem_calls (w : World) (x : Itm) (hz : ItB x) (hE : Env w) : Calls Tryz.prog 110 #[itA x] w (IntPost w (itemE x)) := by
  obtain ⟨id, cust, kind, name, tm, par, text⟩ := x
  obtain ⟨z1, z2, z3, z4, z5⟩ := hz
  simp only at z1 z2 z3 z4 z5
  have HK1 := Lib.hid (fun W => key_any W id (by omega))
  have HK2 := Lib.hid (fun W => key_any W cust (by omega))
  have HK3 := Lib.hid (fun W => key_any W par (by omega))
  have HPL := Lib.hid (fun W (h : Pure w W) => plain_any W name (by omega) (hE.pure h))
  have HTX := Lib.hid (fun W (h : Pure w W) => text_any W text (by omega) (hE.pure h))
  have HIE : Hid (itemE ⟨id, cust, kind, name, tm, par, text⟩ = if !(keyB id && keyB cust) then 5 else if !inB kind 1 4 then 4 else if 120 < name.length then 2 else if !plainB name then 3 else if !inB tm 0 5761439 then 1 else
    if !par.isEmpty && !keyB par then 5 else if par = id then 14 else if 20000 < text.length then 2 else if !textB text then 3 else 0) := Lib.hid (by unfold itemE; rw [show decide (par ≠ []) = !par.isEmpty by cases par <;> simp])
  generalize hie : itemE ⟨id, cust, kind, name, tm, par, text⟩ = ie at *
  have HKN : Hid (keyB id = true → id.isEmpty = false) := Lib.hid (fun h => by cases id <;> first | rfl | cases h)
  generalize keyB id = k1 at *
  generalize keyB cust = k2 at *
  generalize keyB par = k3 at *
  generalize plainB name = pl at *
  generalize textB text = tx at *
  clear hie hE z1 z2 z3 z4 z5
  have B0 := Blk.new w 71 (itQ ⟨id, cust, kind, name, tm, par, text⟩)
  have m0 : Pure w (w.alloc (.cells (itQ ⟨id, cust, kind, name, tm, par, text⟩) 71)) := pure_alloc _ _
  unfold itQ at B0 m0
  simp only at B0 m0
  have HB0 := Lib.hid B0
  have Hm0 := Lib.hid m0
  clear B0 m0
  unfold itA
  simp only
  go_enter Tryz.func110, Tryz.ntmps110
  go_wp2_with fail
  refine (HK1.out _).mono ?_
  rintro e w1 ⟨rfl, m1⟩
  have B1 := HB0.out.mod m1 _root_.id
  have m1 := Hm0.out.trans m1
  clear HB0 Hm0
  generalize w.heap.size = gx at *
  cases k1
  · clear B1 HK1 HK2 HK3 HPL HTX
    go_wp2_with fail
    go_ret
    exact IntPost.of (by rw [HIE.out]; rfl) m1
  have c0 := B1.cell 0; have c1 := B1.cell 1; have c2 := B1.cell 2; have c3 := B1.cell 3; have c4 := B1.cell 4; have c5 := B1.cell 5; have c6 := B1.cell 6; simp at c0 c1 c2 c3 c4 c5 c6
  go_wp2_with fail
  clear c0 c1 c2 c3 c4 c5 c6
  refine (HK2.out _).mono ?_
  rintro e w2 ⟨rfl, m2⟩
  have B2 := B1.mod m2 _root_.id
  have m2 := m1.trans m2
  clear B1 m1
  cases k2
  · clear B2 HK1 HK2 HK3 HPL HTX
    go_wp2_with fail
    go_ret
    exact IntPost.of (by rw [HIE.out]; rfl) m2
  have c0 := B2.cell 0; have c1 := B2.cell 1; have c2 := B2.cell 2; have c3 := B2.cell 3; have c4 := B2.cell 4; have c5 := B2.cell 5; have c6 := B2.cell 6; simp at c0 c1 c2 c3 c4 c5 c6
  go_wp2_with fail
  refine (kindWord_calls _ _).mono ?_
  rintro e w' ⟨rfl, rfl⟩
  have hkw := kwS_empty kind
  cases hki : inB kind 1 4
  all_goals
    rw [hki] at hkw
    simp only [Bool.not_true, Bool.not_false] at hkw
    generalize kwS kind = kw at *
  · clear B2 HK1 HK2 HK3 HPL HTX
    go_wp2_with fail
    go_ret
    exact IntPost.of (by rw [HIE.out]; simp [hki]) m2
  by_cases hn : 120 < name.length
  · have hn' : (120 : Int) < (name.length : Int) := by omega
    clear B2 HK1 HK2 HK3 HPL HTX
    go_wp2_with fail
    go_ret
    exact IntPost.of (by rw [HIE.out]; simp [hki, hn]) m2
  have hn' : ¬ ((120 : Int) < (name.length : Int)) := by omega
  go_wp2_with fail
  clear c0 c1 c2 c3 c4 c5 c6
  refine (HPL.out _ m2).mono ?_
  rintro e w3 ⟨rfl, m3⟩
  have B3 := B2.mod m3 _root_.id
  have m3 := m2.trans m3
  clear B2 m2
  cases pl
  · clear B3 HK1 HK2 HK3 HPL HTX
    go_wp2_with fail
    go_ret
    exact IntPost.of (by rw [HIE.out]; simp [hki, hn]) m3
  have c0 := B3.cell 0; have c1 := B3.cell 1; have c2 := B3.cell 2; have c3 := B3.cell 3; have c4 := B3.cell 4; have c5 := B3.cell 5; have c6 := B3.cell 6; simp at c0 c1 c2 c3 c4 c5 c6
  go_wp2_with fail
  refine (moment_calls _ _).mono ?_
  rintro e w' ⟨rfl, rfl⟩
  cases htm : inB tm 0 5761439
  · clear B3 HK1 HK2 HK3 HPL HTX
    go_wp2_with fail
    go_ret
    exact IntPost.of (by rw [HIE.out]; simp [hki, hn, htm]) m3
  rw [hki, htm] at HIE
  cases hpe : par.isEmpty
  · rw [hpe] at HIE
    go_wp2_with fail
    clear c0 c1 c2 c3 c4 c5 c6
    refine (HK3.out _).mono ?_
    rintro e w4 ⟨rfl, m4⟩
    have B4 := B3.mod m4 _root_.id
    have m4 := m3.trans m4
    clear B3 m3
    cases k3
    · clear B4 HK1 HK2 HK3 HPL HTX
      go_wp2_with fail
      go_ret
      exact IntPost.of (by rw [HIE.out]; simp [hn]) m4
    have c0 := B4.cell 0; have c1 := B4.cell 1; have c2 := B4.cell 2; have c3 := B4.cell 3; have c4 := B4.cell 4; have c5 := B4.cell 5; have c6 := B4.cell 6; simp at c0 c1 c2 c3 c4 c5 c6
    cases hpi : (par == id)
    · have hpi2 : ¬ par = id := by simpa using hpi
      by_cases hl2 : 20000 < text.length
      · have hl2' : (20000 : Int) < (text.length : Int) := by omega
        clear HK1 HK2 HK3 HPL HTX
        go_wp2_with fail
        go_ret
        exact IntPost.of (by rw [HIE.out]; simp [hn, hl2, hpi2]) m4
      · have hl2' : ¬ ((20000 : Int) < (text.length : Int)) := by omega
        clear HK1 HK2 HK3 HPL
        go_wp2_with fail
        refine (HTX.out _ m4).mono ?_
        rintro e w6 ⟨rfl, m6⟩
        have m6 := m4.trans m6
        clear HTX
        cases tx
        all_goals
          go_wp2_with fail
          go_ret
          exact IntPost.of (by rw [HIE.out]; simp [hn, hl2, hpi2]) m6
    · have hpi2 : par = id := by simpa using hpi
      clear HK1 HK2 HK3 HPL HTX
      go_wp2_with fail
      go_ret
      exact IntPost.of (by rw [HIE.out]; simp [hn, hpi2]) m4

  · rw [hpe] at HIE
    cases hpi : (par == id)
    · have hpi2 : ¬ par = id := by simpa using hpi
      by_cases hl2 : 20000 < text.length
      · have hl2' : (20000 : Int) < (text.length : Int) := by omega
        clear HK1 HK2 HK3 HPL HTX
        go_wp2_with fail
        go_ret
        exact IntPost.of (by rw [HIE.out]; simp [hn, hl2, hpi2]) m3
      · have hl2' : ¬ ((20000 : Int) < (text.length : Int)) := by omega
        clear HK1 HK2 HK3 HPL
        go_wp2_with fail
        refine (HTX.out _ m3).mono ?_
        rintro e w6 ⟨rfl, m6⟩
        have m6 := m3.trans m6
        clear HTX
        cases tx
        all_goals
          go_wp2_with fail
          go_ret
          exact IntPost.of (by rw [HIE.out]; simp [hn, hl2, hpi2]) m6
    · have hpi2 : par = id := by simpa using hpi
      have hx : id.isEmpty = false := by have := HKN.out; simpa using this
      rw [← hpi2, hpe] at hx
      cases hx




set_option maxRecDepth 100000 in
set_option maxHeartbeats 8000000 in
theorem itemFault_calls (w : World) (x : Itm) (hz : ItB x) (hE : Env w) : Calls Tryz.prog 41 #[itA x] w (IntPost w (itemE x)) := by
  obtain ⟨id, cust, kind, name, tm, par, text⟩ := x
  obtain ⟨z1, z2, z3, z4, z5⟩ := hz
  simp only at z1 z2 z3 z4 z5
  have HK1 := Lib.hid (fun W => rkey_any W id (by omega))
  have HK2 := Lib.hid (fun W => rkey_any W cust (by omega))
  have HK3 := Lib.hid (fun W => rkey_any W par (by omega))
  have HPL := Lib.hid (fun W (h : Pure w W) => rplain_any W name (by omega) (hE.pure h))
  have HTX := Lib.hid (fun W (h : Pure w W) => rtext_any W text (by omega) (hE.pure h))
  have HIE : Hid (itemE ⟨id, cust, kind, name, tm, par, text⟩ = if !(keyB id && keyB cust) then 5 else if !inB kind 1 4 then 4 else if 120 < name.length then 2 else if !plainB name then 3 else if !inB tm 0 5761439 then 1 else
    if !par.isEmpty && !keyB par then 5 else if par = id then 14 else if 20000 < text.length then 2 else if !textB text then 3 else 0) := Lib.hid (by unfold itemE; rw [show decide (par ≠ []) = !par.isEmpty by cases par <;> simp])
  generalize hie : itemE ⟨id, cust, kind, name, tm, par, text⟩ = ie at *
  have HKN : Hid (keyB id = true → id.isEmpty = false) := Lib.hid (fun h => by cases id <;> first | rfl | cases h)
  generalize keyB id = k1 at *
  generalize keyB cust = k2 at *
  generalize keyB par = k3 at *
  generalize plainB name = pl at *
  generalize textB text = tx at *
  clear hie hE z1 z2 z3 z4 z5
  have B0 := Blk.new w 71 (itQ ⟨id, cust, kind, name, tm, par, text⟩)
  have m0 : Pure w (w.alloc (.cells (itQ ⟨id, cust, kind, name, tm, par, text⟩) 71)) := pure_alloc _ _
  unfold itQ at B0 m0
  simp only at B0 m0
  have HB0 := Lib.hid B0
  have Hm0 := Lib.hid m0
  clear B0 m0
  unfold itA
  simp only
  go_enter Tryz.func41, Tryz.ntmps41
  go_wp2_with fail
  refine (HK1.out _).mono ?_
  rintro e w1 ⟨rfl, m1⟩
  have B1 := HB0.out.mod m1 _root_.id
  have m1 := Hm0.out.trans m1
  clear HB0 Hm0
  generalize w.heap.size = gx at *
  cases k1
  · clear B1 HK1 HK2 HK3 HPL HTX
    go_wp2_with fail
    go_ret
    exact IntPost.of (by rw [HIE.out]; rfl) m1
  have c0 := B1.cell 0; have c1 := B1.cell 1; have c2 := B1.cell 2; have c3 := B1.cell 3; have c4 := B1.cell 4; have c5 := B1.cell 5; have c6 := B1.cell 6; simp at c0 c1 c2 c3 c4 c5 c6
  go_wp2_with fail
  clear c0 c1 c2 c3 c4 c5 c6
  refine (HK2.out _).mono ?_
  rintro e w2 ⟨rfl, m2⟩
  have B2 := B1.mod m2 _root_.id
  have m2 := m1.trans m2
  clear B1 m1
  cases k2
  · clear B2 HK1 HK2 HK3 HPL HTX
    go_wp2_with fail
    go_ret
    exact IntPost.of (by rw [HIE.out]; rfl) m2
  have c0 := B2.cell 0; have c1 := B2.cell 1; have c2 := B2.cell 2; have c3 := B2.cell 3; have c4 := B2.cell 4; have c5 := B2.cell 5; have c6 := B2.cell 6; simp at c0 c1 c2 c3 c4 c5 c6
  go_wp2_with fail
  refine (rin_calls _ _ _ _).mono ?_
  rintro e w' ⟨rfl, rfl⟩
  cases hki : inB kind 1 4
  · clear B2 HK1 HK2 HK3 HPL HTX
    go_wp2_with fail
    go_ret
    exact IntPost.of (by rw [HIE.out]; simp [hki]) m2
  by_cases hn : 120 < name.length
  · have hn' : (120 : Int) < (name.length : Int) := by omega
    clear B2 HK1 HK2 HK3 HPL HTX
    go_wp2_with fail
    go_ret
    exact IntPost.of (by rw [HIE.out]; simp [hki, hn]) m2
  have hn' : ¬ ((120 : Int) < (name.length : Int)) := by omega
  go_wp2_with fail
  clear c0 c1 c2 c3 c4 c5 c6
  refine (HPL.out _ m2).mono ?_
  rintro e w3 ⟨rfl, m3⟩
  have B3 := B2.mod m3 _root_.id
  have m3 := m2.trans m3
  clear B2 m2
  cases pl
  · clear B3 HK1 HK2 HK3 HPL HTX
    go_wp2_with fail
    go_ret
    exact IntPost.of (by rw [HIE.out]; simp [hki, hn]) m3
  have c0 := B3.cell 0; have c1 := B3.cell 1; have c2 := B3.cell 2; have c3 := B3.cell 3; have c4 := B3.cell 4; have c5 := B3.cell 5; have c6 := B3.cell 6; simp at c0 c1 c2 c3 c4 c5 c6
  go_wp2_with fail
  refine (rmoment_calls _ _).mono ?_
  rintro e w' ⟨rfl, rfl⟩
  cases htm : inB tm 0 5761439
  · clear B3 HK1 HK2 HK3 HPL HTX
    go_wp2_with fail
    go_ret
    exact IntPost.of (by rw [HIE.out]; simp [hki, hn, htm]) m3
  rw [hki, htm] at HIE
  cases hpe : par.isEmpty
  · rw [hpe] at HIE
    go_wp2_with fail
    clear c0 c1 c2 c3 c4 c5 c6
    refine (HK3.out _).mono ?_
    rintro e w4 ⟨rfl, m4⟩
    have B4 := B3.mod m4 _root_.id
    have m4 := m3.trans m4
    clear B3 m3
    cases k3
    · clear B4 HK1 HK2 HK3 HPL HTX
      go_wp2_with fail
      go_ret
      exact IntPost.of (by rw [HIE.out]; simp [hn]) m4
    have c0 := B4.cell 0; have c1 := B4.cell 1; have c2 := B4.cell 2; have c3 := B4.cell 3; have c4 := B4.cell 4; have c5 := B4.cell 5; have c6 := B4.cell 6; simp at c0 c1 c2 c3 c4 c5 c6
    cases hpi : (par == id)
    · have hpi2 : ¬ par = id := by simpa using hpi
      by_cases hl2 : 20000 < text.length
      · have hl2' : (20000 : Int) < (text.length : Int) := by omega
        clear HK1 HK2 HK3 HPL HTX
        go_wp2_with fail
        go_ret
        exact IntPost.of (by rw [HIE.out]; simp [hn, hl2, hpi2]) m4
      · have hl2' : ¬ ((20000 : Int) < (text.length : Int)) := by omega
        clear HK1 HK2 HK3 HPL
        go_wp2_with fail
        refine (HTX.out _ m4).mono ?_
        rintro e w6 ⟨rfl, m6⟩
        have m6 := m4.trans m6
        clear HTX
        cases tx
        all_goals
          go_wp2_with fail
          go_ret
          exact IntPost.of (by rw [HIE.out]; simp [hn, hl2, hpi2]) m6
    · have hpi2 : par = id := by simpa using hpi
      clear HK1 HK2 HK3 HPL HTX
      go_wp2_with fail
      go_ret
      exact IntPost.of (by rw [HIE.out]; simp [hn, hpi2]) m4

  · rw [hpe] at HIE
    cases hpi : (par == id)
    · have hpi2 : ¬ par = id := by simpa using hpi
      by_cases hl2 : 20000 < text.length
      · have hl2' : (20000 : Int) < (text.length : Int) := by omega
        clear HK1 HK2 HK3 HPL HTX
        go_wp2_with fail
        go_ret
        exact IntPost.of (by rw [HIE.out]; simp [hn, hl2, hpi2]) m3
      · have hl2' : ¬ ((20000 : Int) < (text.length : Int)) := by omega
        clear HK1 HK2 HK3 HPL
        go_wp2_with fail
        refine (HTX.out _ m3).mono ?_
        rintro e w6 ⟨rfl, m6⟩
        have m6 := m3.trans m6
        clear HTX
        cases tx
        all_goals
          go_wp2_with fail
          go_ret
          exact IntPost.of (by rw [HIE.out]; simp [hn, hl2, hpi2]) m6
    · have hpi2 : par = id := by simpa using hpi
      have hx : id.isEmpty = false := by have := HKN.out; simpa using this
      rw [← hpi2, hpe] at hx
      cases hx



end Go.Proofs.YtofkkenmkflmiaaGreatDoor

/- placed, Check of package intake. -/
namespace Go.Proofs.YtofkkenmkflmiaaGreatDoor
set_option linter.unusedVariables false
set_option linter.unusedSimpArgs false
open Go.RowKit

theorem when_any2 (b : Bool) (n : Int) (w : World) : Calls Tryz.prog 49 #[.bool b, .int .i64 n] w fun e w' => e = .returned (.int .i64 (if b then n else 0)) ∧ w = w' := by
  cases b
  · exact (when_f _ _).mono fun e w' h => h
  · exact (when_t _ _).mono fun e w' h => h
theorem ruleB_fnd (l : List Itm) (x : Itm) : ruleB l x = (decide (x.par ≠ []) && match fnd l x.par with
  | none => false
  | some p => decide (p.kind ≠ 1) && decide (p.kind ≠ 3)) := by
  unfold ruleB fnd
  cases h : plc l x.par with
  | none => rfl
  | some k =>
    obtain ⟨hk, _⟩ := plc_lt _ _ _ h
    simp [hk]

set_option maxRecDepth 100000 in
set_option maxHeartbeats 4000000 in
theorem placed_calls (w : World) (b : Nat) (l : List Itm) (x : Itm) (i : Nat) (hx : l[i]? = some x) (hM : MapX w b l.length (byF l)) (hz : ∀ x ∈ l, ItB x) (hd : l.Pairwise fun x y => x.id ≠ y.id) (hl : l.length ≤ 100000) (hno : lpB l i = false) :
    Calls Tryz.prog 113 #[.map (some b), itA x] w (IntPost w (depE l i)) := by
  have hblt := hM.lt
  have hzx : x.par.length ≤ 30000 := (hz x (List.mem_of_getElem? hx)).2.2.2.1
  have HAB := Lib.hid (fun W (h : MapX W b l.length (byF l)) => iabove_calls W b l x i hx h hz hd hl)
  have HDE : Hid (depE l i = if ruleB l x then 16 else if 4 < (chn l l.length i).length then 2 else 0) := Lib.hid (by unfold depE; rw [hx])
  have HRU := Lib.hid (ruleB_fnd l x)
  have HNO := Lib.hid hno
  clear hx hz hd hno
  have m0 : Pure w (w.alloc (.cells (itQ x) 71)) := pure_alloc _ _
  have M0 := hM.pure m0
  have B0 := Blk.new w 71 (itQ x)
  have hlook := M0.look_ok Tryz.underlying82 zero_item x.par (by omega)
  unfold byF at hlook
  have HM0 := Lib.hid M0
  have HB0 := Lib.hid B0
  have Hm0 := Lib.hid m0
  clear M0 B0 m0 hM
  cases hf : fnd l x.par with
  | none =>
    have hr : ruleB l x = false := by
      rw [HRU.out, hf]
      simp
    have HR := Lib.hid hr
    rw [hf] at hlook
    simp only [Option.map_none, Option.getD_none, Option.isSome_none] at hlook
    have HM1 := Lib.hid (HM0.out.alloc (.cells itZc 71))
    have HB1 := Lib.hid (HB0.out.alloc (.cells itZc 71))
    have Hm1 := Lib.hid (Hm0.out.alloc (.cells itZc 71))
    unfold itZ at hlook
    clear HM0 HB0 Hm0 HRU hf hr
    unfold itQ at hlook HM1 HB1 Hm1
    unfold itZc at HM1 HB1 Hm1
    have hb1 := HB1.out
    have c0 := hb1.cell 0; have c1 := hb1.cell 1; have c2 := hb1.cell 2; have c3 := hb1.cell 3; have c4 := hb1.cell 4; have c5 := hb1.cell 5; have c6 := hb1.cell 6; simp at c0 c1 c2 c3 c4 c5 c6
    clear hb1
    unfold itA at HAB ⊢
    cases he : x.par.isEmpty
    all_goals
      go_enter Tryz.func113, Tryz.ntmps113
      go_wp2_with fail
      refine (HAB.out _ HM1.out).mono ?_
      rintro e w2 ⟨n, lp, rfl, hlp, hn0, m2⟩
      obtain rfl : lp = false := by rw [hlp]; exact HNO.out
      have hn := hn0 rfl
      have m2 := Hm1.out.trans m2
      have hd2 := HDE.out
      rw [← hn, HR.out] at hd2
      have HD2 := Lib.hid hd2
      generalize depE l i = de at *
      clear hlp hn hn0 hd2 HDE hlook c0 c1 c2 c3 c4 c5 c6 HM1 HB1 Hm1 HAB
      go_wp2_with fail
      refine (when_any2 _ _ _).mono ?_
      rintro e w3 ⟨rfl, rfl⟩
      by_cases h4 : 4 < n
      · have h4' : (4 : Int) < (n : Int) := by omega
        have hd4 : decide ((4 : Int) < (n : Int)) = true := decide_eq_true h4'
        rw [hd4]
        go_wp2_with fail
        go_ret
        exact IntPost.of (by rw [HD2.out]; simp [h4]) m2
      · have h4' : ¬ ((4 : Int) < (n : Int)) := by omega
        have hd4 : decide ((4 : Int) < (n : Int)) = false := decide_eq_false h4'
        rw [hd4]
        go_wp2_with fail
        go_ret
        exact IntPost.of (by rw [HD2.out]; simp [h4]) m2
  | some p =>
    have hr : ruleB l x = (!x.par.isEmpty && (decide (p.kind ≠ 1) && decide (p.kind ≠ 3))) := by
      rw [HRU.out, hf]
      rw [show decide (x.par ≠ []) = !x.par.isEmpty by cases x.par <;> simp]
    have HR := Lib.hid hr
    rw [hf] at hlook
    simp only [Option.map_some, Option.getD_some, Option.isSome_some] at hlook
    have HM1 := Lib.hid (HM0.out.alloc (.cells (itQ p) 71))
    have HB1 := Lib.hid (HB0.out.alloc (.cells (itQ p) 71))
    have Hm1 := Lib.hid (Hm0.out.alloc (.cells (itQ p) 71))
    clear HM0 HB0 Hm0 HRU hf hr
    unfold itQ at hlook HM1 HB1 Hm1
    unfold itA at hlook
    have hb1 := HB1.out
    have c0 := hb1.cell 0; have c1 := hb1.cell 1; have c2 := hb1.cell 2; have c3 := hb1.cell 3; have c4 := hb1.cell 4; have c5 := hb1.cell 5; have c6 := hb1.cell 6; simp at c0 c1 c2 c3 c4 c5 c6
    clear hb1
    unfold itA at HAB ⊢
    cases he : x.par.isEmpty
    · rw [he] at HR
      by_cases hk1 : p.kind = 1
      · have hk1' : (p.kind != 1) = false := by simpa using hk1
        have HR2 : Hid (ruleB l x = false) := Lib.hid (by rw [HR.out, hk1]; rfl)
        clear HR
        clear hk1
        go_enter Tryz.func113, Tryz.ntmps113
        go_wp2_with fail
        refine (HAB.out _ HM1.out).mono ?_
        rintro e w2 ⟨n, lp, rfl, hlp, hn0, m2⟩
        obtain rfl : lp = false := by rw [hlp]; exact HNO.out
        have hn := hn0 rfl
        have m2 := Hm1.out.trans m2
        have hd2 := HDE.out
        rw [← hn, HR2.out] at hd2
        have HD2 := Lib.hid hd2
        generalize depE l i = de at *
        clear hlp hn hn0 hd2 HDE hlook c0 c1 c2 c3 c4 c5 c6 HM1 HB1 Hm1 HAB
        go_wp2_with fail
        refine (when_any2 _ _ _).mono ?_
        rintro e w3 ⟨rfl, rfl⟩
        by_cases h4 : 4 < n
        · have h4' : (4 : Int) < (n : Int) := by omega
          have hd4 : decide ((4 : Int) < (n : Int)) = true := decide_eq_true h4'
          rw [hd4]
          go_wp2_with fail
          go_ret
          exact IntPost.of (by rw [HD2.out]; simp [h4]) m2
        · have h4' : ¬ ((4 : Int) < (n : Int)) := by omega
          have hd4 : decide ((4 : Int) < (n : Int)) = false := decide_eq_false h4'
          rw [hd4]
          go_wp2_with fail
          go_ret
          exact IntPost.of (by rw [HD2.out]; simp [h4]) m2
      have hk1' : (p.kind != 1) = true := by simpa using hk1
      by_cases hk3 : p.kind = 3
      · have hk3' : (p.kind != 3) = false := by simpa using hk3
        have HR2 : Hid (ruleB l x = false) := Lib.hid (by rw [HR.out, hk3]; rfl)
        clear HR
        clear hk1 hk3
        go_enter Tryz.func113, Tryz.ntmps113
        go_wp2_with fail
        refine (HAB.out _ HM1.out).mono ?_
        rintro e w2 ⟨n, lp, rfl, hlp, hn0, m2⟩
        obtain rfl : lp = false := by rw [hlp]; exact HNO.out
        have hn := hn0 rfl
        have m2 := Hm1.out.trans m2
        have hd2 := HDE.out
        rw [← hn, HR2.out] at hd2
        have HD2 := Lib.hid hd2
        generalize depE l i = de at *
        clear hlp hn hn0 hd2 HDE hlook c0 c1 c2 c3 c4 c5 c6 HM1 HB1 Hm1 HAB
        go_wp2_with fail
        refine (when_any2 _ _ _).mono ?_
        rintro e w3 ⟨rfl, rfl⟩
        by_cases h4 : 4 < n
        · have h4' : (4 : Int) < (n : Int) := by omega
          have hd4 : decide ((4 : Int) < (n : Int)) = true := decide_eq_true h4'
          rw [hd4]
          go_wp2_with fail
          go_ret
          exact IntPost.of (by rw [HD2.out]; simp [h4]) m2
        · have h4' : ¬ ((4 : Int) < (n : Int)) := by omega
          have hd4 : decide ((4 : Int) < (n : Int)) = false := decide_eq_false h4'
          rw [hd4]
          go_wp2_with fail
          go_ret
          exact IntPost.of (by rw [HD2.out]; simp [h4]) m2
      have hk3' : (p.kind != 3) = true := by simpa using hk3
      have HR2 : Hid (ruleB l x = true) := Lib.hid (by rw [HR.out]; simp [hk1, hk3])
      clear HAB HR hk1 hk3
      go_enter Tryz.func113, Tryz.ntmps113
      go_wp2_with fail
      go_ret
      exact IntPost.of (by rw [HDE.out, HR2.out]; rfl) Hm1.out
    · rw [he] at HR
      have HR2 : Hid (ruleB l x = false) := Lib.hid (by rw [HR.out]; rfl)
      by_cases hdm : True
      · have hk3 := hdm
        have hk1 := hdm
        clear HR
        clear hk1
        go_enter Tryz.func113, Tryz.ntmps113
        go_wp2_with fail
        refine (HAB.out _ HM1.out).mono ?_
        rintro e w2 ⟨n, lp, rfl, hlp, hn0, m2⟩
        obtain rfl : lp = false := by rw [hlp]; exact HNO.out
        have hn := hn0 rfl
        have m2 := Hm1.out.trans m2
        have hd2 := HDE.out
        rw [← hn, HR2.out] at hd2
        have HD2 := Lib.hid hd2
        generalize depE l i = de at *
        clear hlp hn hn0 hd2 HDE hlook c0 c1 c2 c3 c4 c5 c6 HM1 HB1 Hm1 HAB
        go_wp2_with fail
        refine (when_any2 _ _ _).mono ?_
        rintro e w3 ⟨rfl, rfl⟩
        by_cases h4 : 4 < n
        · have h4' : (4 : Int) < (n : Int) := by omega
          have hd4 : decide ((4 : Int) < (n : Int)) = true := decide_eq_true h4'
          rw [hd4]
          go_wp2_with fail
          go_ret
          exact IntPost.of (by rw [HD2.out]; simp [h4]) m2
        · have h4' : ¬ ((4 : Int) < (n : Int)) := by omega
          have hd4 : decide ((4 : Int) < (n : Int)) = false := decide_eq_false h4'
          rw [hd4]
          go_wp2_with fail
          go_ret
          exact IntPost.of (by rw [HD2.out]; simp [h4]) m2
      · exact absurd trivial hdm

end Go.Proofs.YtofkkenmkflmiaaGreatDoor
