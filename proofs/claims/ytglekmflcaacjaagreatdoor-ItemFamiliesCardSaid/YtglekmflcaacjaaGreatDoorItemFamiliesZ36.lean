/- Texts of the proof of ItemFamilies, put together: FamD, SamF. -/
import Derived.Test.YtglekmflcaacjaaGreatDoorItemFamiliesZ23
import Derived.Test.YtglekmflcaacjaaGreatDoorItemFamiliesZ35
import Derived.Deep.AppendLies
/- Families of package intake. -/
namespace Go.Proofs.YtglekmflcaacjaaGreatDoor
set_option linter.unusedVariables false
set_option linter.unusedSimpArgs false
open Go.RowKit

/-- A family in memory: its top, the slice of its items, their ids. -/
abbrev Fm := Str × Value × List Str
def fmV (xs : List Fm) : List Value := xs.flatMap fun p => [.string ⟨p.1.toArray⟩, p.2.1]
theorem fmV_len : ∀ xs : List Fm, (fmV xs).length = xs.length * 2
  | [] => rfl
  | x :: xs => by
    have := fmV_len xs
    simp only [fmV, List.flatMap_cons, List.length_append, List.length_cons, List.length_nil] at *
    omega
theorem fmV_get : ∀ (xs : List Fm) (i : Nat) (h : i < xs.length), (fmV xs)[i * 2]? = some (.string ⟨xs[i].1.toArray⟩) ∧ (fmV xs)[i * 2 + 1]? = some xs[i].2.1
  | [], i, h => absurd h (by simp)
  | x :: xs, 0, h => by simp [fmV]
  | x :: xs, i + 1, h => by
    have := fmV_get xs i (by simpa using h)
    have e : (i + 1) * 2 = i * 2 + 1 + 1 := by omega
    simp only [fmV, List.flatMap_cons, List.cons_append, List.nil_append, e, List.getElem?_cons_succ, List.getElem_cons_succ]
    exact this
theorem fmV_snoc (xs : List Fm) (p : Fm) : fmV (xs ++ [p]) = fmV xs ++ [.string ⟨p.1.toArray⟩, p.2.1] := by simp [fmV]
/-- What families say. -/
def fmS (xs : List Fm) : List (Str × List Str) := xs.map fun p => (p.1, p.2.2)
def FmR (w : World) (v : Value) (xs : List Fm) : Prop := Sl w 53 2 v (fmV xs) ∧ ∀ p ∈ xs, Sl w 9 1 p.2.1 (strsV p.2.2)
theorem FmR.pure {w w' : World} {v : Value} {xs : List Fm} (h : FmR w v xs) (hm : Pure w w') : FmR w' v xs := ⟨h.1.pure hm, fun p hp => (h.2 p hp).pure hm⟩
def famsS (l : List Itm) : List (Str × List Str) := (topsI l).map fun t => (idAt2 l t, belS l 4 t)
theorem info_fam : (Tryz.prog.info? 53).map (fun i => (i.zero, i.size, i.bytes)) = some (some (.agg #[.string ⟨#[]⟩, .slice none 0 0]), 2, 40) := by kernel_rfl
def FamPost (w : World) (l : List Itm) (e : Ending) (w' : World) : Prop :=
  ∃ v, e = .returned (.tuple #[v, .int .i64 (itsE itemE l)]) ∧ (itsE itemE l ≠ 0 → v = nilS) ∧ (itsE itemE l = 0 → ∃ fs, FmR w' v fs ∧ fmS fs = famsS l) ∧ Pure w w'
def FaRel (w : World) (base g0 bi bk : Nat) (At : Option Addr) (nt ct : Nat) (l : List Itm) (gk : Nat) (x i : Value) (wr : World) : Prop :=
  ∃ (k : Nat) (fs : List Fm) (Ao : Option Addr) (cap : Nat), (topsI l).length - k = gk ∧ k ≤ (topsI l).length ∧ x = .slice Ao k cap ∧ i = .int .i64 (k : Int) ∧ fs.length = k ∧ fmS fs = (famsS l).take k ∧
    wr.ownsRow base 53 2 (.slice Ao k cap) k (fmV fs) ∧ (∀ p ∈ fs, Sl wr 9 1 p.2.1 (strsV p.2.2)) ∧ Blk wr g0 100 #[.map (some bi), .map (some bk), .slice At nt ct] ∧ TreeIs wr bi bk (.slice At nt ct) l ∧ Pure w wr ∧ base ≤ wr.heap.size
theorem TreeIs.grown {w w' : World} {bi bk : Nat} {vt v : Value} {xs : List Itm} {base size n : Nat} {ys : List Value} (h : TreeIs w bi bk vt xs) (hb : bi < base) (hb2 : bk < base) (hown : w.ownsRow base 53 size v n ys) (hg : w.grownBy w' v.ownBlock) : TreeIs w' bi bk vt xs := by
  obtain ⟨n, V, h1, h2⟩ := h.kids
  have hm := grown_mod hg
  have hne : ∀ k, v.ownBlock = some k → base ≤ k := own_block hown
  exact ⟨h.items.mod hm (fun hh => by have := hne _ hh; omega), ⟨n, V, h1.mod hm (fun hh => by have := hne _ hh; omega), fun p => (h2 p).grown hown hg (by decide)⟩, h.tops.grown hown hg (by decide)⟩
theorem itemE_ne {x : Itm} (h : itemE x = 0) : x.id ≠ [] := fun e => by have := itemE_id h; rw [e] at this; cases this

set_option maxRecDepth 100000 in
set_option maxHeartbeats 8000000 in
theorem families_calls (w : World) (v : Value) (l : List Itm) (hv : Its w v l) (hz : ∀ x ∈ l, ItB x) (hl : l.length ≤ 2000) (hE : Env w) : Calls Tryz.prog 23 #[v] w (FamPost w l) := by
  obtain ⟨i0, hi0, hz0, hz1, hz2⟩ := info_parts info_fam
  have HCH := Lib.hid (check_calls w v l hv hz hl hE)
  have HNT := Lib.hid (fun W (h : Pure w W) hd => newTree_calls W v l (hv.pure h) hz hd hl)
  have HRT := Lib.hid (fun h => right_of (E := itemE) (fun x hx => itemE_ne hx) (l := l) h)
  have HBT := Lib.hid (fun hR bi bk At nt ct => belowT_calls l hR hz bi bk At nt ct 4)
  obtain ⟨A, n, c, rfl⟩ := Sl.form hv
  have HE := Lib.hid (rfl : itsE itemE l = itsE itemE l)
  obtain ⟨e1, he1⟩ : ∃ e1, itsE itemE l = e1 := ⟨_, rfl⟩
  rw [he1] at HCH
  have HE1 := Lib.hid he1
  clear hv hz hE HE he1
  go_enter Tryz.func23, Tryz.ntmps23
  go_wp2_with fail
  refine HCH.out.mono ?_
  rintro e w1 ⟨rfl, m1⟩
  clear HCH
  by_cases h0 : e1 = 0
  · subst h0
    have hR := HRT.out HE1.out
    have HR := Lib.hid hR
    have hds := hR.distinct
    have HDS := Lib.hid hds
    clear hR hds HRT
    go_wp2_with fail
    refine (HNT.out _ m1 HDS.out).mono ?_
    rintro e w2 ⟨bi, bk, vt, rfl, hT, m2⟩
    have m3 := m1.trans m2
    obtain ⟨At, nt, ct, rfl⟩ := hT.tops.form
    have hbil := hT.items.lt
    have hws := m3.size
    have hbkl : bk < w2.heap.size := by
      obtain ⟨_, _, h1, _⟩ := hT.kids
      exact h1.lt
    have hnt : (topsS l).length = nt := hT.tops.lenS
    rw [HR.out.topsS_eq, List.length_map] at hnt
    subst hnt
    have hB0 := Blk.new w2 100 #[.map (some bi), .map (some bk), .slice At (topsI l).length ct]
    have hT0 := hT.pure (pure_alloc w2 (.cells #[.map (some bi), .map (some bk), .slice At (topsI l).length ct] 100))
    have hm0 := m3.alloc (.cells #[.map (some bi), .map (some bk), .slice At (topsI l).length ct] 100)
    have hsz : (w2.alloc (.cells #[.map (some bi), .map (some bk), .slice At (topsI l).length ct] 100)).heap.size = w2.heap.size + 1 := by simp
    have hsz1 := Nat.le_of_eq hsz
    have hsz2 := Nat.le_of_eq hsz.symm
    have HB0 := Lib.hid hB0
    have HT0 := Lib.hid hT0
    have Hm0 := Lib.hid hm0
    have htl : (topsI l).length ≤ 2000 := by
      unfold topsI
      exact Nat.le_trans (List.length_filter_le _ _) (by simp; omega)
    clear HNT m1 m2 m3 hT hB0 hT0 hm0 hsz
    go_wp2_with fail
    obtain ⟨g0, hg0⟩ : ∃ g0, g0 = w2.heap.size := ⟨_, rfl⟩
    obtain ⟨base, hba⟩ : ∃ base, base = w2.heap.size + 1 := ⟨_, rfl⟩
    have hg1 := Nat.le_of_eq hg0
    have hg2 := Nat.le_of_eq hg0.symm
    have hb1 := Nat.le_of_eq hba
    have hb2 := Nat.le_of_eq hba.symm
    rw [← hg0] at HB0 ⊢
    clear hg0 hba
    generalize (w2.alloc (.cells #[.map (some bi), .map (some bk), .slice At (topsI l).length ct] 100)) = W at *
    have hmz := Hm0.out.size
    go_loopg [6, 19] (topsI l).length (fun gk xv i wr => FaRel w base g0 bi bk At (topsI l).length ct l gk xv i wr)
    case atStart => exact ⟨0, [], none, 0, by omega, by omega, rfl, rfl, rfl, by simp [fmS], ⟨rfl, .inl ⟨rfl, rfl⟩⟩, fun p hp => absurd hp (by simp), HB0.out, HT0.out, Hm0.out, by omega⟩
    case round =>
      clear HB0 HT0 Hm0 hmz hsz1 hsz2
      obtain ⟨k, fs, Ao, cap, rfl, hk, rfl, rfl, hfl, hfs, hown, hsl, hB, hT, hm, hsz⟩ := hrel
      by_cases hlt : k < (topsI l).length
      · have hkl : k < (topsS l).length := by rw [HR.out.topsS_eq, List.length_map]; exact hlt
        obtain ⟨gr, off, rfl, hrow⟩ := hT.tops.rowS (by omega)
        have q1 := hrow.cell (strsV_get (topsS l) k hkl)
        have hte : (topsS l)[k] = idAt2 l (topsI l)[k] := by
          have := HR.out.topsS_eq
          simp only [this, List.getElem_map]
        rw [hte] at q1
        have htk : (topsI l)[k] < l.length := (mem_topsI.1 (List.getElem_mem hlt)).1
        have hbt := HBT.out HR.out bi bk (some ⟨gr, off, none⟩) (topsI l).length ct _ htk (HR.out.short _) wr hT
        rw [← idAt2_eq htk] at hbt
        have HBC := Lib.hid hbt
        have hft : (famsS l).take (k + 1) = (famsS l).take k ++ [(idAt2 l (topsI l)[k], belS l 4 (topsI l)[k])] := by
          have hkf : k < (famsS l).length := by unfold famsS; rw [List.length_map]; exact hlt
          rw [List.take_succ_eq_append_getElem hkf]
          congr 2
          simp [famsS]
        have HFT := Lib.hid hft
        have HFS := Lib.hid hfs
        have HSL := Lib.hid hsl
        have HTT := Lib.hid hT
        clear hrow hte htk hbt hft hfs hsl hT hkl
        generalize idAt2 l (topsI l)[k] = tid at *
        generalize belS l 4 (topsI l)[k] = bs at *
        have t0 := hB.cell 0; have t1 := hB.cell 1; have t2 := hB.cell 2; simp at t0 t1 t2
        go_wp2_with fail
        refine HBC.out.mono ?_
        rintro e w3 ⟨v3, rfl, own3, m3⟩
        have hS3 := Sl.of_own own3
        obtain ⟨Ai, ni, ci, rfl⟩ := hS3.form
        have hownA := own_pure hown m3
        have hB3 := hB.mod m3 id
        have hm3 := hm.trans m3
        have hT3 := HTT.out.pure m3
        have hob := own_block hownA
        have HOB := Lib.hid hob
        have hzz := m3.size
        have HSL3 := Lib.hid (fun p hp => (HSL.out p hp).pure m3)
        have HS3 := Lib.hid hS3
        have HB3 := Lib.hid hB3
        have HT3 := Lib.hid hT3
        have HM3 := Lib.hid hm3
        clear t0 t1 t2 q1 hown hB hm HBC own3 m3 hob hB3 hT3 HTT HSL hS3
        go_wp2_with (at_builtin; refine wpList_append_lies _ rfl _ _ _ rfl base 53 i0 _ 2 40 Tryz.underlying47 hi0 hz0 hz1 hz2 rfl (by omega) (.slice Ao k cap) k (fmV fs) rfl (hownA.alloc _) ⟨w3.heap.size, 0, none⟩ 1 1 [.string ⟨tid.toArray⟩, .slice Ai ni ci] rfl rfl (World.news_of_block (cs := #[.string ⟨tid.toArray⟩, .slice Ai ni ci]) (t := 53) (fr := (0, 0)) (heap_alloc_new w3 _)) (by simp [Value.oneCell']) (by omega) (by simp [maxLen]; omega) (by omega) (by have := hm3.size; simp; omega) (w3.heap.size + 1) (by simp) ?_; intro g5 cap5 w5 hown5 hgrow hat hlt5)
        have hz5 := hgrow.size
        simp at hz5
        have hg3 := hownA.alloc (.cells #[.string ⟨tid.toArray⟩, .slice Ai ni ci] 53)
        have pA := pure_alloc w3 (.cells #[.string ⟨tid.toArray⟩, .slice Ai ni ci] 53)
        go_roundg ((topsI l).length - (k + 1))
        case measure => omega
        case rel =>
          refine ⟨k + 1, fs ++ [(tid, .slice Ai ni ci, bs)], some ⟨g5, 0, none⟩, cap5, rfl, by omega, rfl, by simp, by simp [hfl], ?_, ?_, ?_, ?_, ?_, (HM3.out.alloc _).grown hgrow (fun k hk => .inr (by have := HOB.out k hk; omega)), by omega⟩
          · rw [HFT.out, ← HFS.out]
            simp [fmS]
          · rw [fmV_snoc]
            exact hown5
          · intro p hp
            rcases List.mem_append.1 hp with hp | hp
            · exact ((HSL3.out p hp).pure pA).grown hg3 hgrow (by decide)
            · rw [List.mem_singleton.1 hp]
              exact (HS3.out.pure pA).grown hg3 hgrow (by decide)
          · exact (HB3.out.mod pA id).mod (grown_mod hgrow) (fun h => by have := HOB.out _ h; omega)
          · exact (HT3.out.pure pA).grown (by omega) (by omega) hg3 hgrow
      · obtain rfl : k = (topsI l).length := by omega
        have hft : fmS fs = famsS l := by
          rw [hfs, List.take_of_length_le]
          unfold famsS
          rw [List.length_map]
          exact Nat.le_refl _
        have HFT := Lib.hid hft
        have HSL := Lib.hid hsl
        have HOW := Lib.hid (Sl.of_own hown)
        clear hft hsl hown hfs hB hT
        go_wp2_with fail
        refine bodyPost_ret (v := .tuple #[.slice Ao (topsI l).length cap, .int .i64 0]) (by simp [results, Tryz.results23, go_sem]) rfl ?_
        exact ⟨_, by rw [HE1.out], fun h => absurd HE1.out h, fun _ => ⟨fs, ⟨HOW.out, HSL.out⟩, HFT.out⟩, hm⟩
  · have h0' : (e1 != 0) = true := by simpa using h0
    have H0 := Lib.hid h0
    clear HNT HRT HBT h0
    go_wp2_with fail
    refine bodyPost_ret (v := .tuple #[.slice none 0 0, .int .i64 e1]) (by simp [results, Tryz.results23, go_sem]) rfl ?_
    exact ⟨_, by rw [HE1.out], fun _ => rfl, fun h => absurd (HE1.out.symm.trans h) H0.out, m1⟩

end Go.Proofs.YtglekmflcaacjaaGreatDoor

/- Equal families. -/
namespace Go.Proofs.YtglekmflcaacjaaGreatDoor
set_option linter.unusedVariables false
set_option linter.unusedSimpArgs false
open Go.RowKit

set_option maxRecDepth 100000 in
set_option maxHeartbeats 2000000 in
theorem sameFam_calls (w : World) (a : Str) (v1 v2 : Value) (xs : List Str) (h1 : Sl w 9 1 v1 (strsV xs)) (h2 : Sl w 9 1 v2 (strsV xs)) :
    Calls Tryz.prog 27 #[.agg #[.string ⟨a.toArray⟩, v1], .agg #[.string ⟨a.toArray⟩, v2]] w (BoolPost w true) := by
  have h1' := h1.pure ((pure_alloc w (.cells #[.string ⟨a.toArray⟩, v1] 53)).trans (pure_alloc _ (.cells #[.string ⟨a.toArray⟩, v2] 53)))
  have h2' := h2.pure ((pure_alloc w (.cells #[.string ⟨a.toArray⟩, v1] 53)).trans (pure_alloc _ (.cells #[.string ⟨a.toArray⟩, v2] 53)))
  have HE := Lib.hid (equalS_calls _ v1 v2 xs h1' h2')
  have hm : Pure w ((w.alloc (.cells #[.string ⟨a.toArray⟩, v1] 53)).alloc (.cells #[.string ⟨a.toArray⟩, v2] 53)) := (pure_alloc _ _).trans (pure_alloc _ _)
  have HM := Lib.hid hm
  obtain ⟨A1, n1, c1, rfl⟩ := h1.form
  obtain ⟨A2, n2, c2, rfl⟩ := h2.form
  have hse : (a == a) = true := by simp
  clear h1 h2 h1' h2' hm
  go_enter Tryz.func27, Tryz.ntmps27
  go_wp2_with fail
  refine HE.out.mono ?_
  rintro e w1 ⟨rfl, m1⟩
  go_wp2_with fail
  go_ret
  exact BoolPost.of rfl (HM.out.trans m1)

theorem FmR.at {w : World} {A : Option Addr} {n c : Nat} {xs : List Fm} (h : FmR w (.slice A n c) xs) {k : Nat} (hk : k < xs.length) :
    ∃ g off B m d, A = some ⟨g, off, none⟩ ∧ w.cell? ⟨g, off + k * 2, none⟩ = some (.string ⟨xs[k].1.toArray⟩) ∧ w.cell? ⟨g, off + k * 2 + 1, none⟩ = some (.slice B m d) ∧ xs[k].2.1 = .slice B m d ∧ Sl w 9 1 (.slice B m d) (strsV xs[k].2.2) := by
  have hs := h.2 _ (List.getElem_mem hk)
  obtain ⟨B, m, d, hu⟩ := hs.form
  obtain ⟨A', n', c', hf, _, _, hl, hr⟩ := h.1
  injection hf with e1 e2 e3
  subst e1 e2 e3
  rw [fmV_len] at hl
  obtain ⟨g, off, rfl, hrow⟩ := hr (by omega)
  obtain ⟨g1, g2⟩ := fmV_get xs k hk
  refine ⟨g, off, B, m, d, rfl, hrow.cell g1, ?_, hu, by rw [← hu]; exact hs⟩
  have := hrow.cell g2
  rw [hu] at this
  exact this
theorem FmR.len {w : World} {A : Option Addr} {n c : Nat} {xs : List Fm} (h : FmR w (.slice A n c) xs) : xs.length = n ∧ n ≤ 9223372036854775807 := by
  obtain ⟨A', n', c', hf, h4, h5, hl, _⟩ := h.1
  injection hf with e1 e2 e3
  rw [fmV_len] at hl
  omega
theorem fmS_at {xs ys : List Fm} (h : fmS xs = fmS ys) : xs.length = ys.length ∧ ∀ k (h1 : k < xs.length) (h2 : k < ys.length), xs[k].1 = ys[k].1 ∧ xs[k].2.2 = ys[k].2.2 := by
  have hl : xs.length = ys.length := by simpa [fmS] using congrArg List.length h
  refine ⟨hl, fun k h1 h2 => ?_⟩
  have := congrArg (fun l => l[k]?) h
  simpa [fmS, h1, h2] using this

set_option maxRecDepth 100000 in
set_option maxHeartbeats 2000000 in
theorem equalFam_calls (w : World) (v1 v2 : Value) (xs ys : List Fm) (h1 : FmR w v1 xs) (h2 : FmR w v2 ys) (hxy : fmS xs = fmS ys) :
    Calls Tryz.prog 25 #[v1, v2, .func (.func 27) #[] #[]] w (BoolPost w true) := by
  obtain ⟨A1, n1, c1, rfl⟩ := h1.1.form
  obtain ⟨A2, n2, c2, rfl⟩ := h2.1.form
  obtain ⟨hn1, hb1⟩ := h1.len
  obtain ⟨hn2, hb2⟩ := h2.len
  obtain ⟨hl, HX⟩ := fmS_at hxy
  have HX := Lib.hid HX
  subst hn1
  have hl2 : n2 = xs.length := by omega
  subst hl2
  have H1 := Lib.hid h1
  have H2 := Lib.hid h2
  have hly := Nat.le_of_eq hl
  have hne : ((xs.length : Int) != (xs.length : Int)) = false := by simp
  have hcf : ∀ (x y : Value) (W : World), Sem.run Tryz.prog (callFunc 27 #[x, y]) W = .ok (.enter 27 #[x, y]) W := fun _ _ _ => rfl
  clear h1 h2 hn2 hl hxy
  go_enter Tryz.func25, Tryz.ntmps25
  go_wp2_with fail
  go_loopg [17] xs.length (fun gk i wr => ∃ k : Nat, xs.length - k = gk ∧ k ≤ xs.length ∧ i = .int .i64 (k : Int) ∧ Pure w wr)
  case atStart => exact ⟨0, by omega, by omega, rfl, Mod.refl _ _⟩
  case round =>
    obtain ⟨k, rfl, hk, rfl, hm⟩ := hrel
    by_cases hlt : k < xs.length
    · have hky : k < ys.length := by omega
      obtain ⟨g1, o1, B1, m1, d1, rfl, q1, q1', _, s1⟩ := (H1.out.pure hm).at hlt
      obtain ⟨g2, o2, B2, m2, d2, rfl, q2, q2', _, s2⟩ := (H2.out.pure hm).at hky
      obtain ⟨e1, e2⟩ := HX.out k hlt hky
      rw [← e1] at q2
      rw [← e2] at s2
      clear e1 e2
      generalize xs[k].1 = a at *
      generalize xs[k].2.2 = bs at *
      have hp : Pure wr ((wr.alloc (.cells #[.string ⟨a.toArray⟩, .slice B1 m1 d1] 53)).alloc (.cells #[.string ⟨a.toArray⟩, .slice B2 m2 d2] 53)) := (pure_alloc _ _).trans (pure_alloc _ _)
      have HS := Lib.hid (sameFam_calls _ a _ _ _ (s1.pure hp) (s2.pure hp))
      have hM := Lib.hid (hm.trans hp)
      have i1 : (0 : Int) ≤ (k : Int) := by omega
      have i2 : (k : Int) < (xs.length : Int) := by omega
      have q3 := cell_alloc q2 (.cells #[.string ⟨a.toArray⟩, .slice B1 m1 d1] 53)
      have q4 := cell_alloc q2' (.cells #[.string ⟨a.toArray⟩, .slice B1 m1 d1] 53)
      clear s1 s2 hp hm q2 q2'
      go_wp2_with fail
      refine HS.out.mono ?_
      rintro e w1 ⟨rfl, hm1⟩
      go_wp2_with fail
      go_roundg (xs.length - (k + 1))
      case measure => omega
      case rel => exact ⟨k + 1, rfl, by omega, by simp, hM.out.trans hm1⟩
    · have hke : k = xs.length := by omega
      subst hke
      go_wp2_with fail
      go_ret
      exact BoolPost.of rfl hm

end Go.Proofs.YtglekmflcaacjaaGreatDoor
