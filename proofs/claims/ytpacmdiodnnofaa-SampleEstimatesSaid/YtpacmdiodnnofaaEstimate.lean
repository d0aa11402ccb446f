/- Estimate and its reference. -/
import Derived.Test.YtpacmdiodnnofaaEst
import Derived.Test.YtpacmdiodnnofaaGains
namespace Go.Proofs.Ytpacmdiodnnofaa
set_option linter.unusedVariables false
set_option linter.unusedSimpArgs false
open Go.RowKit
attribute [local go_sem ↓] Go.wp_at_zero Go.wp_at_succ

def EstRel (W : World) (ds : List Dr) (g4 gk : Nat) (i : Value) (wr : World) : Prop :=
  ∃ k : Nat, ds.length - k = gk ∧ k ≤ ds.length ∧ i = .int .i64 (k : Int) ∧ (∀ j, (h : j < ds.length) → j < k → dErr ds[j] = 0) ∧ Blk wr g4 30 #[.int .i64 (est (ds.take k)).1, .int .i64 (est (ds.take k)).2] ∧ Mod (fun j => j = g4) W wr

set_option maxRecDepth 100000 in
set_option maxHeartbeats 2000000 in
theorem EstimateOf_calls (w : World) (v : Value) (ds : List Dr) (hv : Sl w 27 3 v (drawnsV ds)) (hl : ds.length ≤ 5) (hd : ∀ j, (h : j < ds.length) → dErr ds[j] = 0) : Calls Try.prog 29 #[v] w (FracRes w (est ds).1 (est ds).2) := by
  obtain ⟨A, m, c, rfl⟩ := hv.form
  have hm : m = ds.length ∧ m ≤ c ∧ c ≤ 9223372036854775807 := by
    obtain ⟨A', n', c', he, h1, h2, h3, _⟩ := hv
    injection he with _ h4 h5
    rw [drawnsV_len] at h3
    omega
  obtain ⟨rfl, hmc, hcc⟩ := hm
  go_enter Try.func29, Try.ntmps29
  go_wp2_with fail
  have hrB := (Blk.new w 30 #[.int .i64 0, .int .i64 0]).alloc (.cells #[.int .i64 0, .int .i64 1] 30)
  have hoB := Blk.snd w (.cells #[.int .i64 0, .int .i64 0] 30) 30 #[.int .i64 0, .int .i64 1]
  have hm0 : Pure w ((w.alloc (.cells #[.int .i64 0, .int .i64 0] 30)).alloc (.cells #[.int .i64 0, .int .i64 1] 30)) := ((Mod.refl _ _).alloc _).alloc _
  have hv0 := hv.pure hm0
  generalize ((w.alloc (.cells #[.int .i64 0, .int .i64 0] 30)).alloc (.cells #[.int .i64 0, .int .i64 1] 30)) = W at *
  generalize hdb : w.heap.size = g2 at *
  have hle := Nat.le_of_eq hdb
  clear hdb
  have HD := Lib.hid hd
  clear hd
  go_loopg [9] ds.length (fun gk i wr => EstRel W ds (g2 + 1) gk i wr)
  case atStart => exact ⟨0, by omega, by omega, rfl, fun j h hj => absurd hj (by omega), hoB, Mod.refl _ _⟩
  case round =>
    obtain ⟨k, rfl, hk, rfl, hdk, hb, hm⟩ := hrel
    have HDK := Lib.hid hdk
    clear hdk
    by_cases hlt : k < ds.length
    · obtain ⟨g, off, rfl, hrow⟩ := hv0.row (by omega)
      have hne : g ≠ g2 + 1 := hrow.ne hoB (by decide)
      have hrow2 := hrow.mod hm hne
      obtain ⟨q1, q2, q3⟩ := drawnsV_get ds k hlt
      have c1 := hrow2.cell q1
      have c2 := hrow2.cell q2
      have c3 := hrow2.cell q3
      have hgl : g < wr.heap.size := hrow2.lt
      have hbl := hb.lt
      obtain ⟨⟨s1, s2⟩, ⟨s3, s4⟩, ⟨s5, s6⟩, ⟨s7, s8⟩, s9⟩ := est_step_bound (d := ds[k]) (by omega) (est_bound ds k HDK.out hk (by omega)) (HD.out k hlt)
      have HT := Lib.hid (est_take ds k hlt)
      have HB := Lib.hid hb
      clear q1 q2 q3 hrow hrow2 s9
      generalize hdk : ds[k] = d at *
      clear hdk
      obtain ⟨po, sa, fo⟩ := d
      generalize est (ds.take k) = p at *
      obtain ⟨p1, p2⟩ := p
      simp only at c1 c2 c3 s1 s2 s3 s4 s5 s6 s7 s8 hb
      rw [← Nat.add_assoc] at c2 c3
      have hb' := hb.alloc (.cells #[.int .i64 po, .int .i64 sa, .int .i64 fo] 27)
      have r0 := hb'.cell 0; have rf0 := hb'.frozen 0; have r1 := hb'.cell 1; have rf1 := hb'.frozen 1; simp at r0 r1
      go_wp2_with fail
      refine (lowest_calls _ _ _ (by omega) (by omega) (by omega)).mono ?_
      rintro e w1 ⟨rfl, hm1⟩
      have hb1 := hb'.modp hm1
      have hm1' : Mod (fun j => j = g2 + 1) W w1 := (hm.alloc _).trans (Mod.of_pure hm1)
      clear hb hb' r0 r1 rf0 rf1 c1 c2 c3 HB hm hm1 hgl hbl
      obtain ⟨f1, hf1⟩ : ∃ f, fracN (p1 * sa + po * fo * p2) (p2 * sa) = f := ⟨_, rfl⟩
      obtain ⟨f2, hf2⟩ : ∃ f, fracD (p1 * sa + po * fo * p2) (p2 * sa) = f := ⟨_, rfl⟩
      have HF : Hid (estStep (p1, p2) (po, sa, fo) = (f1, f2)) := by
        show estStep (p1, p2) (po, sa, fo) = (f1, f2)
        rw [← hf1, ← hf2]
        rfl
      rw [hf1, hf2]
      clear hf1 hf2
      have r0 := hb1.cell 0; have rf0 := hb1.frozen 0; have r1 := hb1.cell 1; have rf1 := hb1.frozen 1; simp at r0 r1
      go_wp2_with fail
      go_roundg (ds.length - (k + 1))
      case measure => omega
      case rel =>
        refine ⟨k + 1, rfl, by omega, by simp, fun j h hj => HD.out j h, ?_, Mod.setCell (S := fun j => j = g2 + 1) (p := ⟨g2 + 1, 1, none⟩) (Mod.setCell (S := fun j => j = g2 + 1) (p := ⟨g2 + 1, 0, none⟩) hm1' (.inl rfl) _) (.inl rfl) _⟩
        rw [HT.out, HF.out]
        exact Blk.set2 hb1
    · have hke : k = ds.length := by omega
      subst hke
      have hr1 := hrB.mod hm (by omega)
      have hb2 := hb
      rw [List.take_length] at hb2
      generalize est ds = p at *
      obtain ⟨p1, p2⟩ := p
      simp only at hb2
      clear hb
      have r0 := hb2.cell 0; have rf0 := hb2.frozen 0; have r1 := hb2.cell 1; have rf1 := hb2.frozen 1; simp at r0 r1
      have s0 := hr1.cell 0; have sf0 := hr1.frozen 0; have s1 := hr1.cell 1; have sf1 := hr1.frozen 1; simp at s0 s1
      go_wp2_with fail
      refine bodyPost_ret (v := .agg #[.int .i64 p1, .int .i64 p2]) (by simp [results, Try.results29, go_sem, s0, s1]) rfl ?_
      exact ⟨rfl, ((hm0.trans' hm (fun i hi hlt => by omega)).setCell (.inr (by show _ ≤ g2; omega)) _).setCell (.inr (by show _ ≤ g2; omega)) _⟩

def estE (ds : List Dr) : Int := if 5 < ds.length then 2 else dErrs ds
def EsSpec (ds : List Dr) (x y er : Int) : Prop := (estE ds ≠ 0 ∧ x = 0 ∧ y = 0 ∧ er = estE ds) ∨ (estE ds = 0 ∧ x = (est ds).1 ∧ y = (est ds).2 ∧ er = 0)
def EsPost (w : World) (ds : List Dr) (e : Ending) (w' : World) : Prop := ∃ x y er : Int, EsSpec ds x y er ∧ e = .returned (.tuple #[agg2 x y, .int .i64 er]) ∧ Pure w w'
theorem dErr_one (d : Dr) : dErr d = 0 ∨ dErr d = 1 := by
  unfold dErr drawnErr
  split
  · exact .inl rfl
  · exact .inr rfl
theorem dErrs_first {ds : List Dr} {k : Nat} (h : k < ds.length) (h0 : ∀ j, (h : j < ds.length) → j < k → dErr ds[j] = 0) (h1 : dErr ds[k] ≠ 0) : dErrs ds = dErr ds[k] := by
  unfold dErrs
  have e : ds = ds.take k ++ ds[k] :: ds.drop (k + 1) := by rw [← List.drop_eq_getElem_cons h, List.take_append_drop]
  have hz : ∀ x ∈ (ds.take k).map dErr, x = 0 := by
    intro x hx
    obtain ⟨d, hd, rfl⟩ := List.mem_map.1 hx
    obtain ⟨i, hi, rfl⟩ := List.getElem_of_mem hd
    rw [List.length_take] at hi
    rw [List.getElem_take]
    exact h0 i (by omega) (by omega)
  have : ∀ (l : List Int) (x : Int) (r : List Int), (∀ y ∈ l, y = 0) → x ≠ 0 → firstErr (l ++ x :: r) = x := by
    intro l x r hl hx
    induction l with
    | nil => show (if x = 0 then _ else x) = x; rw [if_neg hx]
    | cons y l ih =>
      show (if y = 0 then firstErr (l ++ x :: r) else y) = x
      rw [if_pos (hl y (by simp))]
      exact ih (fun z hz => hl z (by simp [hz]))
  calc firstErr (ds.map dErr) = firstErr ((ds.take k).map dErr ++ dErr ds[k] :: (ds.drop (k + 1)).map dErr) := by rw [← List.map_cons, ← List.map_append, ← e]
    _ = dErr ds[k] := this _ _ _ hz h1
theorem dErrs_none {ds : List Dr} (h0 : ∀ j, (h : j < ds.length) → dErr ds[j] = 0) : dErrs ds = 0 := by
  refine firstErr_all (fun e he => ?_)
  obtain ⟨d, hd, rfl⟩ := List.mem_map.1 he
  obtain ⟨i, hi, rfl⟩ := List.getElem_of_mem hd
  exact h0 i hi

set_option maxRecDepth 100000 in
set_option maxHeartbeats 2000000 in
theorem Estimate_calls (w : World) (v : Value) (ds : List Dr) (hv : Sl w 27 3 v (drawnsV ds)) : Calls Try.prog 28 #[v] w (EsPost w ds) := by
  obtain ⟨A, m, c, rfl⟩ := hv.form
  have hm : m = ds.length ∧ m ≤ c ∧ c ≤ 9223372036854775807 := by
    obtain ⟨A', n', c', he, h1, h2, h3, _⟩ := hv
    injection he with _ h4 h5
    rw [drawnsV_len] at h3
    omega
  obtain ⟨rfl, hmc, hcc⟩ := hm
  by_cases h5 : 5 < ds.length
  · have hE : estE ds = 2 := if_pos h5
    have HE := Lib.hid hE
    clear hE
    go_enter Try.func28, Try.ntmps28
    go_wp2_with fail
    refine bodyPost_ret (v := .tuple #[agg2 0 0, .int .i64 2]) (by simp [results, Try.results28, go_sem]) rfl ?_
    exact ⟨0, 0, 2, .inl ⟨by rw [HE.out]; decide, rfl, rfl, HE.out.symm⟩, rfl, by (repeat' (first | with_reducible assumption | with_reducible exact Mod.refl _ _ | with_reducible refine Mod.alloc ?_ _ | with_reducible refine Mod.drew ?_ | with_reducible refine Mod.drewN ?_ _ | ((with_reducible apply Mod.q_set); (dsimp only); omega) | ((with_reducible apply Mod.q_trans); (with_reducible assumption)) | ((with_reducible apply Mod.q_transp); (with_reducible assumption))))⟩
  · have HE : Hid (estE ds = dErrs ds) := if_neg h5
    go_enter Try.func28, Try.ntmps28
    go_wp2_with fail
    have hrB := (Blk.new w 30 #[.int .i64 0, .int .i64 0]).alloc (.cells #[.int .i64 0, .int .i64 1] 30)
    have hoB := Blk.snd w (.cells #[.int .i64 0, .int .i64 0] 30) 30 #[.int .i64 0, .int .i64 1]
    have hm0 : Pure w ((w.alloc (.cells #[.int .i64 0, .int .i64 0] 30)).alloc (.cells #[.int .i64 0, .int .i64 1] 30)) := ((Mod.refl _ _).alloc _).alloc _
    have hv0 := hv.pure hm0
    generalize ((w.alloc (.cells #[.int .i64 0, .int .i64 0] 30)).alloc (.cells #[.int .i64 0, .int .i64 1] 30)) = W at *
    generalize hdb : w.heap.size = g2 at *
    have hle := Nat.le_of_eq hdb
    clear hdb
    go_loopg [15] ds.length (fun gk i wr => EstRel W ds (g2 + 1) gk i wr)
    case atStart => exact ⟨0, by omega, by omega, rfl, fun j h hj => absurd hj (by omega), hoB, Mod.refl _ _⟩
    case round =>
      obtain ⟨k, rfl, hk, rfl, hdk, hb, hm⟩ := hrel
      have HDK := Lib.hid hdk
      clear hdk
      have hr1 := hrB.mod hm (by omega)
      by_cases hlt : k < ds.length
      · obtain ⟨g, off, rfl, hrow⟩ := hv0.row (by omega)
        have hne : g ≠ g2 + 1 := hrow.ne hoB (by decide)
        have hrow2 := hrow.mod hm hne
        obtain ⟨q1, q2, q3⟩ := drawnsV_get ds k hlt
        have c1 := hrow2.cell q1
        have c2 := hrow2.cell q2
        have c3 := hrow2.cell q3
        have hgl : g < wr.heap.size := hrow2.lt
        have hbl := hb.lt
        have HT := Lib.hid (est_take ds k hlt)
        have HFI := Lib.hid (fun (h1 : dErr ds[k] ≠ 0) => dErrs_first hlt HDK.out h1)
        have HSB := Lib.hid (fun (hd0 : dErr ds[k] = 0) => est_step_bound (d := ds[k]) (by omega) (est_bound ds k HDK.out hk (by omega)) hd0)
        have HNX : Hid (dErr ds[k] = 0 → ∀ j, (h : j < ds.length) → j < k + 1 → dErr ds[j] = 0) := by
          intro h0 j h hj
          by_cases e : j = k
          · subst e; exact h0
          · exact HDK.out j h (by omega)
        clear q1 q2 q3 hrow hrow2
        generalize hdk : ds[k] = d at *
        clear hdk
        obtain ⟨po, sa, fo⟩ := d
        generalize est (ds.take k) = p at *
        obtain ⟨p1, p2⟩ := p
        simp only at c1 c2 c3 hb
        rw [← Nat.add_assoc] at c2 c3
        have hb' := hb.alloc (.cells #[.int .i64 po, .int .i64 sa, .int .i64 fo] 27)
        have hd' := Blk.new wr 27 #[.int .i64 po, .int .i64 sa, .int .i64 fo]
        have hr' := hr1.alloc (.cells #[.int .i64 po, .int .i64 sa, .int .i64 fo] 27)
        go_wp2_with fail
        refine (checkDrawn_calls _ po sa fo).mono ?_
        rintro e w1 ⟨rfl, hm1⟩
        have hb1 := hb'.modp hm1
        have hd1 := hd'.modp hm1
        have hr2 := hr'.modp hm1
        have hm1' : Mod (fun j => j = g2 + 1) W w1 := (hm.alloc _).trans (Mod.of_pure hm1)
        clear hb hb' hd' hr' hr1 c1 c2 c3 hm hm1 hgl hbl
        generalize wr.heap.size = g6 at *
        obtain ⟨de, hde⟩ : ∃ de, drawnErr po sa fo = de := ⟨_, rfl⟩
        rw [hde]
        have HDE : Hid (dErr (po, sa, fo) = de) := hde
        clear hde
        by_cases h0 : de = 0
        · subst h0
          obtain ⟨⟨s1, s2⟩, ⟨s3, s4⟩, ⟨s5, s6⟩, ⟨s7, s8⟩, _⟩ := HSB.out HDE.out
          have r0 := hb1.cell 0; have r1 := hb1.cell 1; simp at r0 r1
          have q0 := hd1.cell 0; have q1 := hd1.cell 1; have q2 := hd1.cell 2; simp at q0 q1 q2
          go_wp2_with fail
          refine (fraction_calls _ _ _ (by omega) (by omega) (by omega)).mono ?_
          rintro e w2 ⟨rfl, hm2⟩
          have hb2 := hb1.modp hm2
          have hm2' : Mod (fun j => j = g2 + 1) W w2 := hm1'.trans (Mod.of_pure hm2)
          clear hb1 hd1 hr2 r0 r1 q0 q1 q2 hm1' hm2
          obtain ⟨f1, hf1⟩ : ∃ f, fracN (p1 * sa + po * fo * p2) (p2 * sa) = f := ⟨_, rfl⟩
          obtain ⟨f2, hf2⟩ : ∃ f, fracD (p1 * sa + po * fo * p2) (p2 * sa) = f := ⟨_, rfl⟩
          have HF : Hid (estStep (p1, p2) (po, sa, fo) = (f1, f2)) := by
            show estStep (p1, p2) (po, sa, fo) = (f1, f2)
            rw [← hf1, ← hf2]
            rfl
          rw [hf1, hf2]
          clear hf1 hf2
          have r0 := hb2.cell 0; have rf0 := hb2.frozen 0; have r1 := hb2.cell 1; have rf1 := hb2.frozen 1; simp at r0 r1
          go_wp2_with fail
          go_roundg (ds.length - (k + 1))
          case measure => omega
          case rel =>
            refine ⟨k + 1, rfl, by omega, by simp, HNX.out HDE.out, ?_, Mod.setCell (S := fun j => j = g2 + 1) (p := ⟨g2 + 1, 1, none⟩) (Mod.setCell (S := fun j => j = g2 + 1) (p := ⟨g2 + 1, 0, none⟩) hm2' (.inl rfl) _) (.inl rfl) _⟩
            rw [HT.out, HF.out]
            exact Blk.set2 hb2
        · have hne0 : (de != 0) = true := by simpa using h0
          have H0 := Lib.hid h0
          clear h0
          have r0 := hr2.cell 0; have rf0 := hr2.frozen 0; have r1 := hr2.cell 1; have rf1 := hr2.frozen 1; simp at r0 r1
          go_wp2_with fail
          have hes : estE ds = de := by
            rw [HE.out, HFI.out (by rw [HDE.out]; exact H0.out)]
            exact HDE.out
          refine bodyPost_ret (v := .tuple #[agg2 0 0, .int .i64 de]) (by simp [results, Try.results28, go_sem, r0, r1]) rfl ?_
          exact ⟨0, 0, de, .inl ⟨by rw [hes]; exact H0.out, rfl, rfl, hes.symm⟩, rfl, ((hm0.trans' hm1' (fun i hi hlt => by omega)).setCell (.inr (by show _ ≤ g2; omega)) _).setCell (.inr (by show _ ≤ g2; omega)) _⟩
      · have hke : k = ds.length := by omega
        have hall : Hid (dErrs ds = 0) := dErrs_none (fun j h => HDK.out j h (by omega))
        subst hke
        have hb2 := hb
        rw [List.take_length] at hb2
        have HP := Lib.hid (show est ds = ((est ds).1, (est ds).2) from rfl)
        generalize hp : est ds = p at *
        have HPP := Lib.hid hp
        clear hp HP hb HDK
        obtain ⟨p1, p2⟩ := p
        simp only at hb2
        have r0 := hb2.cell 0; have rf0 := hb2.frozen 0; have r1 := hb2.cell 1; have rf1 := hb2.frozen 1; simp at r0 r1
        have s0 := hr1.cell 0; have sf0 := hr1.frozen 0; have s1 := hr1.cell 1; have sf1 := hr1.frozen 1; simp at s0 s1
        go_wp2_with fail
        refine bodyPost_ret (v := .tuple #[agg2 p1 p2, .int .i64 0]) (by simp [results, Try.results28, go_sem, s0, s1]) rfl ?_
        exact ⟨p1, p2, 0, .inr ⟨by rw [HE.out]; exact hall.out, by rw [HPP.out], by rw [HPP.out], rfl⟩, rfl, ((hm0.trans' hm (fun i hi hlt => by omega)).setCell (.inr (by show _ ≤ g2; omega)) _).setCell (.inr (by show _ ≤ g2; omega)) _⟩

end Go.Proofs.Ytpacmdiodnnofaa
