/- Texts of the proof of FilterKeeps, put together: FamQ, FamO, WhoR, PlcR. -/
import Derived.Test.YtofkkenmkflmiaaGreatDoorFilterKeepsZ13
import Derived.Test.YtofkkenmkflmiaaGreatDoorFilterKeepsZ16
import Derived.Test.YtofkkenmkflmiaaGreatDoorFilterKeepsZ21
import Derived.Test.YtofkkenmkflmiaaGreatDoorFilterKeepsZ33
import Derived.Test.YtofkkenmkflmiaaGreatDoorFilterKeepsZ38
import Derived.Deep.DeepCutAuto
import Derived.Deep.CutBlock
/- FamiliesOf: what its second loop keeps. -/
namespace Go.Proofs.YtofkkenmkflmiaaGreatDoor
set_option linter.unusedVariables false
set_option linter.unusedSimpArgs false
open Go.RowKit

/-- Families in strings. -/
def famT (l : List Itm) (f : List (Nat × List Nat)) : List (Str × List Str) := f.map fun p => (idAt2 l p.1, p.2.map (idAt2 l))
theorem famT_all (l : List Itm) : famT l (famsI l) = famsS l := by simp [famT, famsI, famsS, belS]
def foldK (l : List Itm) (k : Nat) : List (Nat × List Nat) := ((allI l).take k).foldl (famStep l) []
theorem foldK_all (l : List Itm) : famT l (foldK l (allI l).length) = famsS l := by
  unfold foldK
  rw [List.take_length, fam_fold, famT_all]
theorem foldK_succ {l : List Itm} {k : Nat} (h : k < (allI l).length) : foldK l (k + 1) = famStep l (foldK l k) (allI l)[k] := by
  unfold foldK
  rw [List.take_succ_eq_append_getElem h, List.foldl_append]
  rfl
theorem all_first (l : List Itm) (h : 0 < (allI l).length) : upI l (allI l)[0] = none := by
  cases ht : topsI l with
  | nil => simp [allI, ht] at h
  | cons t ts =>
    have e : (allI l)[0]? = some t := by
      rw [allI, ht, List.flatMap_cons]
      rfl
    rw [List.getElem?_eq_getElem h] at e
    injection e with e
    rw [e]
    exact (mem_topsI.1 (by rw [ht]; simp)).2
theorem famStep_ne {l : List Itm} {f : List (Nat × List Nat)} {i : Nat} (h : f ≠ []) : famStep l f i ≠ [] := by
  unfold famStep
  split
  · simp
  · cases hf : f.getLast? with
    | none => exact h
    | some p => simp
theorem foldK_ne {l : List Itm} : ∀ {k : Nat}, 0 < k → k ≤ (allI l).length → foldK l k ≠ []
  | 1, _, h => by
    rw [foldK_succ (by omega)]
    unfold famStep
    rw [if_pos (all_first l (by omega))]
    simp [foldK]
  | k + 2, _, h => by
    rw [foldK_succ (by omega)]
    exact famStep_ne (foldK_ne (by omega) (by omega))
/-- One more, in strings: a top. -/
theorem famT_top {l : List Itm} {f : List (Nat × List Nat)} {i : Nat} (h : upI l i = none) : famT l (famStep l f i) = famT l f ++ [(idAt2 l i, [idAt2 l i])] := by
  unfold famStep
  rw [if_pos h]
  simp [famT]
/-- One more, in strings: below a top. -/
theorem famT_kid {l : List Itm} {f : List (Nat × List Nat)} {i : Nat} (h : upI l i ≠ none) {fs0 : List (Str × List Str)} {p : Str × List Str} (hf : famT l f = fs0 ++ [p]) : famT l (famStep l f i) = fs0 ++ [(p.1, p.2 ++ [idAt2 l i])] := by
  have hne : f ≠ [] := by rintro rfl; simp [famT] at hf
  obtain ⟨f0, q, rfl⟩ : ∃ f0 q, f = f0 ++ [q] := ⟨f.dropLast, f.getLast hne, (List.dropLast_concat_getLast hne).symm⟩
  unfold famStep
  rw [if_neg h]
  unfold famT at hf ⊢
  rw [List.map_append, List.map_cons, List.map_nil] at hf
  obtain ⟨h1, h2⟩ := List.append_inj' hf (by simp)
  simp at h2
  subst h1
  subst h2
  simp

/-- The families in memory: the last one's items are the call's own row, those of the others lie below it. -/
def FoOwn (w : World) (base : Nat) (vo : Value) (fs : List Fm) : Prop :=
  w.ownsRow base 103 2 vo fs.length (fmV fs) ∧
  (fs = [] ∨ ∃ fs0 p bl, fs = fs0 ++ [p] ∧ base ≤ bl ∧ bl ≤ w.heap.size ∧ (∀ q ∈ fs0, SlU w bl q.2.1 q.2.2) ∧ w.ownsRow bl 9 1 p.2.1 p.2.2.length (strsV p.2.2))
theorem FoOwn.all {w : World} {base : Nat} {vo : Value} {fs : List Fm} (h : FoOwn w base vo fs) : ∀ q ∈ fs, SlU w w.heap.size q.2.1 q.2.2 := by
  rcases h.2 with rfl | ⟨fs0, p, bl, rfl, h1, h1', h2, h3⟩
  · intro q hq; cases hq
  · intro q hq
    rcases List.mem_append.1 hq with hq | hq
    · exact (h2 q hq).up h1'
    · rw [List.mem_singleton.1 hq]
      exact SlU.of_own h3
theorem FoOwn.fm {w : World} {base : Nat} {vo : Value} {fs : List Fm} (h : FoOwn w base vo fs) : FmR w vo fs := ⟨Sl.of_own h.1, fun p hp => (h.all p hp).1⟩
theorem FoOwn.pure {w w' : World} {base : Nat} {vo : Value} {fs : List Fm} (h : FoOwn w base vo fs) (hm : Pure w w') : FoOwn w' base vo fs := by
  refine ⟨own_pure h.1 hm, ?_⟩
  rcases h.2 with rfl | ⟨fs0, p, bl, rfl, h1, h1', h2, h3⟩
  · exact .inl rfl
  · exact .inr ⟨fs0, p, bl, rfl, h1, Nat.le_trans h1' hm.size, fun q hq => (h2 q hq).mod hm (fun _ _ _ => id), own_pure h3 hm⟩
/-- A new family. -/
theorem FoOwn.top {w w5 : World} {base n' : Nat} {vo v5 : Value} {fs : List Fm} {id : Str} (h : FoOwn w base vo fs) (hg : w.grownBy w5 vo.ownBlock) (hn : n' = fs.length + 1) (hown : w5.ownsRow base 103 2 v5 n' (fmV fs ++ [.string ⟨id.toArray⟩, nilS])) (hb : base ≤ w.heap.size) : FoOwn w5 base v5 (fs ++ [(id, nilS, [])]) := by
  subst hn
  refine ⟨?_, .inr ⟨fs, _, w5.heap.size, rfl, Nat.le_trans hb hg.size, Nat.le_refl _, fun q hq => ?_, ?_⟩⟩
  · rw [fmV_snoc]
    simpa using hown
  · exact ((h.all q hq).grown h.1 (by decide) hg).up hg.size
  · exact ⟨by simp [strsV], .inl ⟨rfl, rfl⟩⟩
theorem fmV_set (fs0 : List Fm) (p : Fm) (v : Value) (ids : List Str) : (fmV (fs0 ++ [p])).set (fs0.length * 2 + 1) v = fmV (fs0 ++ [(p.1, v, ids)]) := by
  rw [fmV_snoc, fmV_snoc, ← fmV_len, List.set_append_right _ _ (by omega)]
  simp
/-- The families, with the last one at hand: its items are the call's own row. -/
structure FoLast (w : World) (base g cap bl : Nat) (fs0 : List Fm) (t : Str) (v : Value) (ids : List Str) : Prop where
  out : w.ownsRow base 103 2 (.slice (some ⟨g, 0, none⟩) (fs0.length + 1) cap) (fs0.length + 1) (fmV (fs0 ++ [(t, v, ids)]))
  b1 : base ≤ bl
  b2 : bl ≤ w.heap.size
  old : ∀ q ∈ fs0, SlU w bl q.2.1 q.2.2
  own : w.ownsRow bl 9 1 v ids.length (strsV ids)
section
variable {w w' : World} {base g cap bl : Nat} {fs0 : List Fm} {t : Str} {v : Value} {ids : List Str}
theorem FoLast.pure (h : FoLast w base g cap bl fs0 t v ids) (hm : Pure w w') : FoLast w' base g cap bl fs0 t v ids :=
  ⟨own_pure h.out hm, h.b1, Nat.le_trans h.b2 hm.size, fun q hq => (h.old q hq).mod hm (fun _ _ _ => id), own_pure h.own hm⟩
theorem FoLast.cell (h : FoLast w base g cap bl fs0 t v ids) : w.cell? ⟨g, fs0.length * 2 + 1, none⟩ = some v := by
  rw [h.out.cellAt _ (by omega)]
  have := (fmV_get (fs0 ++ [(t, v, ids)]) fs0.length (by simp)).2
  simpa using this
theorem FoLast.lt (h : FoLast w base g cap bl fs0 t v ids) : base ≤ g ∧ g < w.heap.size := h.out.lt g rfl
theorem FoOwn.last {vo : Value} {fs : List Fm} (h : FoOwn w base vo fs) (hne : fs ≠ []) : ∃ fs0 t A ids c g cap bl, fs = fs0 ++ [(t, .slice A ids.length c, ids)] ∧ vo = .slice (some ⟨g, 0, none⟩) (fs0.length + 1) cap ∧ FoLast w base g cap bl fs0 t (.slice A ids.length c) ids := by
  rcases h.2 with rfl | ⟨fs0, ⟨t, v, ids⟩, bl, rfl, h1, h1', h2, h3⟩
  · exact absurd rfl hne
  · have ho := h.1
    rcases ho.2 with ⟨_, h0⟩ | ⟨g, cap, cur, hv, r⟩
    · simp at h0
    · simp only [List.length_append, List.length_cons, List.length_nil, Nat.zero_add] at hv ho
      subst hv
      obtain ⟨A, n, c, rfl⟩ := (Sl.of_own h3).form
      have hn : ids.length = n := (Sl.of_own h3).lenS
      subst hn
      exact ⟨fs0, t, A, ids, c, g, cap, bl, rfl, rfl, ho, h1, h1', h2, h3⟩
/-- The last family's row has grown, and is not stored yet. -/
def FoPre (zw : World) (base g cap bl : Nat) (fs0 : List Fm) (t : Str) (v : Value) (ids : List Str) (id : Str) (v5 : Value) : Prop :=
  ∃ W n', FoLast W base g cap bl fs0 t v ids ∧ W.grownBy zw v.ownBlock ∧ n' = ids.length + 1 ∧ zw.ownsRow bl 9 1 v5 n' (strsV ids ++ [.string ⟨id.toArray⟩])
theorem grownBy_pure {W w w' : World} {row : Option Nat} (h : W.grownBy w row) (hm : Pure w w') : W.grownBy w' row :=
  ⟨hm.os.trans h.os, hm.tape.trans h.tape, hm.output.trans h.output, Nat.le_trans h.size hm.size, fun k hk hr => (hm.block k (Nat.lt_of_lt_of_le hk h.size) id).trans (h.block k hk hr)⟩
variable {id : Str} {v5 : Value}
theorem FoPre.pure (h : FoPre w base g cap bl fs0 t v ids id v5) (hm : Pure w w') : FoPre w' base g cap bl fs0 t v ids id v5 := by
  obtain ⟨W, n', h1, h2, h3, h4⟩ := h
  exact ⟨W, n', h1, grownBy_pure h2 hm, h3, own_pure h4 hm⟩
theorem FoPre.outs (h : FoPre w base g cap bl fs0 t v ids id v5) : w.ownsRow base 103 2 (.slice (some ⟨g, 0, none⟩) (fs0.length + 1) cap) (fs0.length + 1) (fmV (fs0 ++ [(t, v, ids)])) := by
  obtain ⟨W, n', h1, h2, h3, h4⟩ := h
  exact own_grown h1.out h1.own (by decide) h2
theorem FoPre.cell (h : FoPre w base g cap bl fs0 t v ids id v5) : w.cell? ⟨g, fs0.length * 2 + 1, none⟩ = some v := by
  rw [h.outs.cellAt _ (by omega)]
  have := (fmV_get (fs0 ++ [(t, v, ids)]) fs0.length (by simp)).2
  simpa using this
/-- The last family has one item more. -/
theorem FoPre.store (h : FoPre w base g cap bl fs0 t v ids id v5) : FoOwn (w.setCell ⟨g, fs0.length * 2 + 1, none⟩ v5) base (.slice (some ⟨g, 0, none⟩) (fs0.length + 1) cap) (fs0 ++ [(t, v5, ids ++ [id])]) := by
  have ho5 := h.outs
  obtain ⟨W, n', hL, hg, hn, hown⟩ := h
  subst hn
  obtain ⟨hs, hgr⟩ := ho5.stored (fs0.length * 2 + 1) v5
  rw [fmV_set _ _ _ (ids ++ [id])] at hs
  refine ⟨by simpa using hs, .inr ⟨fs0, _, bl, rfl, hL.b1, Nat.le_trans hL.b2 (Nat.le_trans hg.size hgr.size), fun q hq => ?_, ?_⟩⟩
  · have h4 : SlU w bl q.2.1 q.2.2 := (hL.old q hq).mod (grown_mod hg) (fun g' _ hl he => by have := (hL.own.lt g' he).1; omega)
    exact h4.grown ho5 (by decide) hgr
  · have := own_grown hown ho5 (by decide) hgr
    simpa [strsV] using this
end
theorem foldK_len {l : List Itm} : ∀ {k : Nat}, k ≤ (allI l).length → (foldK l k).length ≤ k ∧ ∀ p ∈ foldK l k, p.2.length ≤ k
  | 0, _ => by simp [foldK]
  | k + 1, h => by
    obtain ⟨h1, h2⟩ := foldK_len (l := l) (k := k) (by omega)
    rw [foldK_succ (by omega)]
    generalize foldK l k = f at *
    unfold famStep
    split
    · refine ⟨by simp; omega, fun p hp => ?_⟩
      rcases List.mem_append.1 hp with hp | hp
      · exact Nat.le_succ_of_le (h2 p hp)
      · rw [List.mem_singleton.1 hp]
        simp
    · cases hf : f.getLast? with
      | none => exact ⟨by show f.length ≤ _; omega, fun p hp => Nat.le_succ_of_le (h2 p hp)⟩
      | some q =>
        have hq := h2 q (List.mem_of_getLast? hf)
        refine ⟨by simp; omega, fun p hp => ?_⟩
        rcases List.mem_append.1 hp with hp | hp
        · exact Nat.le_succ_of_le (h2 p (List.dropLast_subset f hp))
        · rw [List.mem_singleton.1 hp]
          simp
          omega
theorem fo_len {l : List Itm} {fs : List Fm} {k : Nat} (hk : k ≤ (allI l).length) (h : fmS fs = famT l (foldK l k)) : fs.length ≤ k ∧ ∀ p ∈ fs, p.2.2.length ≤ k := by
  obtain ⟨h1, h2⟩ := foldK_len hk
  have hl := congrArg List.length h
  simp [fmS, famT] at hl
  refine ⟨by omega, fun p hp => ?_⟩
  have : (p.1, p.2.2) ∈ famT l (foldK l k) := by
    rw [← h]
    exact List.mem_map.2 ⟨p, hp, rfl⟩
  unfold famT at this
  obtain ⟨q, hq, he⟩ := List.mem_map.1 this
  injection he with _ he
  rw [← he, List.length_map]
  exact h2 q hq

end Go.Proofs.YtofkkenmkflmiaaGreatDoor

/- FamiliesOf of the reference. -/
namespace Go.Proofs.YtofkkenmkflmiaaGreatDoor
set_option linter.unusedVariables false
set_option linter.unusedSimpArgs false
open Go.RowKit

def FamOPost (w : World) (l : List Itm) (e : Ending) (w' : World) : Prop := ∃ v fs, e = .returned v ∧ FmR w' v fs ∧ fmS fs = famsS l ∧ Pure w w'
def FiRel (W0 : World) (gm n gk : Nat) (k : Value) (wr : World) : Prop :=
  ∃ m : Nat, n - m = gk ∧ m ≤ n ∧ k = .int .i64 (m : Int) ∧ wr.ownsRow gm 3 1 (.slice (some ⟨gm, 0, none⟩) n n) n (natsV (List.range m ++ List.replicate (n - m) 0)) ∧ Mod (· = gm) W0 wr
theorem fill_set (n m : Nat) (h : m < n) : (List.range m ++ List.replicate (n - m) 0).set m m = List.range (m + 1) ++ List.replicate (n - (m + 1)) 0 := by
  rw [List.set_append_right _ _ (by simp), show n - m = (n - (m + 1)) + 1 by omega, List.replicate_succ]
  simp [List.range_succ]
theorem natsV_zeros (n : Nat) : natsV (List.replicate n 0) = List.replicate n (.int .i64 0) := by simp [natsV]
def FoRel (W0 : World) (base : Nat) (l : List Itm) (gk : Nat) (x i : Value) (wr : World) : Prop :=
  ∃ (k : Nat) (fs : List Fm) (Ao : Option Addr) (cap : Nat), (allI l).length - k = gk ∧ k ≤ (allI l).length ∧ x = .slice Ao fs.length cap ∧ i = .int .i64 (k : Int) ∧ fmS fs = famT l (foldK l k) ∧ FoOwn wr base (.slice Ao fs.length cap) fs ∧ Pure W0 wr ∧ base ≤ wr.heap.size
def FoCut (W0 : World) (base : Nat) (l : List Itm) (k i : Nat) (x : Value) (wx : World) : Prop :=
  ∃ (fs0 : List Fm) (t : Str) (A : Option Addr) (ids : List Str) (c g cap bl : Nat), x = .slice (some ⟨g, 0, none⟩) (fs0.length + 1) cap ∧ FoLast wx base g cap bl fs0 t (.slice A ids.length c) ids ∧
    fmS fs0 ++ [(t, ids ++ [idAt2 l i])] = famT l (foldK l (k + 1)) ∧ Pure W0 wx ∧ base ≤ wx.heap.size ∧ fs0.length ≤ k ∧ ids.length ≤ k
theorem all_perm' {l : List Itm} (hR : Right l) : (allI l).Perm (List.range l.length) := all_perm hR.loop hR.end5

def FoNew (w : World) (base gf cf : Nat) (fs0 : List Fm) (t : Str) (ids : List Str) (id : Str) : Prop := ∃ v5, FoOwn w base (.slice (some ⟨gf, 0, none⟩) (fs0.length + 1) cf) (fs0 ++ [(t, v5, ids ++ [id])])
theorem FoNew.pure {w w' : World} {base gf cf : Nat} {fs0 : List Fm} {t : Str} {ids : List Str} {id : Str} (h : FoNew w base gf cf fs0 t ids id) (hm : Pure w w') : FoNew w' base gf cf fs0 t ids id := by
  obtain ⟨v5, h⟩ := h
  exact ⟨v5, h.pure hm⟩
theorem foCut_mk {W0 wx : World} {base k i : Nat} {l : List Itm} {vo : Value} {fs : List Fm} (h : FoOwn wx base vo fs) (hne : fs ≠ []) (hfs : ∀ fs0 p, fs = fs0 ++ [p] → fmS fs0 ++ [(p.1, p.2.2 ++ [idAt2 l i])] = famT l (foldK l (k + 1)))
    (h1 : fs.length ≤ k + 1) (h2 : ∀ p ∈ fs, p.2.2.length ≤ k) (hm : Pure W0 wx) (hs : base ≤ wx.heap.size) : FoCut W0 base l k i vo wx := by
  obtain ⟨fs0, t, A, ids, c, g, cap, bl, rfl, hv, hL⟩ := h.last hne
  exact ⟨fs0, t, A, ids, c, g, cap, bl, hv, hL, hfs _ _ rfl, hm, hs, by simpa using h1, h2 (t, .slice A ids.length c, ids) (by simp)⟩
def SoPost (w : World) (gm : Nat) (l : List Itm) (e : Ending) (w' : World) : Prop :=
  e = .returned (.tuple #[]) ∧ (∀ k (hk : k < (allI l).length), w'.cell? ⟨gm, k, none⟩ = some (.int .i64 ((allI l)[k] : Int))) ∧ Mod (· = gm) w w'
set_option maxRecDepth 100000 in
theorem order_calls (w : World) (gm gw gc : Nat) (v : Value) (l : List Itm) (hR : Right l) (hl : l.length ≤ 12) (hown : w.ownsRow gm 3 1 (.slice (some ⟨gm, 0, none⟩) l.length l.length) l.length (natsV (List.range l.length)))
    (hv : ∀ W, Mod (· = gm) w W → Its W v l ∧ W.cell? ⟨gc, 0, none⟩ = some v ∧ W.cell? ⟨gw, 0, none⟩ = some (wayF gc)) :
    Calls Tryz.prog 129 #[.slice (some ⟨gm, 0, none⟩) l.length l.length, .func (.func 130) #[] #[.pointer (some ⟨gw, 0, none⟩)]] w (SoPost w gm l) := by
  have hp := all_perm' hR
  by_cases h0 : l.length = 0
  · rw [h0]
    refine (sort0_calls _ _ _ _).mono ?_
    rintro e w' ⟨rfl, hm⟩
    refine ⟨rfl, fun k hk => ?_, Mod.of_pure hm⟩
    have := hp.length_eq
    simp at this
    omega
  · refine (sortFunc_calls w gm gm l.length l.length (List.range l.length) 130 (.pointer (some ⟨gw, 0, none⟩)) (fun i j => lexL (wayI l i) (wayI l j)) hown (by omega) hl (fun a b c h1 h2 => lexL_trans h1 h2) ?_ List.nodup_range (fun a b W => by rfl) ?_).mono ?_
    · intro a _ b _ hab
      exact lexL_total (fun h => hab (wayI_inj h))
    · intro a b W ha hb hm
      obtain ⟨h1, h2, h3⟩ := hv W hm
      exact ways_calls W gw gc v l hR a b (List.mem_range.1 ha) (List.mem_range.1 hb) h1 h2 h3
    · rintro e w' ⟨ys, hperm, hsort, rfl, ho, hm⟩
      have hys : ys = allI l := ways_unique hsort (all_sorted hR.loop) (hperm.trans hp.symm)
      subst hys
      have hle : (allI l).length = l.length := by have := hp.length_eq; simpa using this
      refine ⟨rfl, fun k hk => ?_, hm⟩
      rw [ho.cellAt k (by omega), natsV_get _ k hk]

set_option maxRecDepth 100000 in
set_option maxHeartbeats 8000000 in
theorem familiesOf_calls (w : World) (v : Value) (l : List Itm) (hv : Its w v l) (hR : Right l) (hl : l.length ≤ 12) : Calls Tryz.prog 74 #[v] w (FamOPost w l) := by
  obtain ⟨i0, hi0, hz0, hz1, hz2⟩ := info_parts info_fam
  have HR := Lib.hid hR
  have HV := Lib.hid hv
  have hmk := run_make_one (P := Tryz.prog) 22 3 (.int .i64 0) 8 Tryz.underlying22 info_int7 rfl .i64 .i64 l.length (l.length : Int) rfl (by omega) (by omega) (natsV (List.replicate l.length 0)).toArray (by rw [natsV_zeros])
  obtain ⟨A, n, c, rfl, hc1, hc2, hl2, hr⟩ := hv
  have hln : l.length = n := by rw [itV_len] at hl2; omega
  subst hln
  clear hl2 hr hR
  have B0 := Blk.new (w.alloc (.cells #[.slice A l.length c] 26)) 176 #[.nilFunc]
  rw [World.size_alloc] at B0
  have q0 : ((w.alloc (.cells #[.slice A l.length c] 26)).alloc (.cells #[.nilFunc] 176)).cell? ⟨w.heap.size + 1, 0, none⟩ = some .nilFunc := B0.cell 0
  have q1 : ((w.alloc (.cells #[.slice A l.length c] 26)).alloc (.cells #[.nilFunc] 176)).frozen? ⟨w.heap.size + 1, 0, none⟩ = false := B0.frozen 0
  have hst : Sem.run Tryz.prog (store ⟨w.heap.size + 1, 0, none⟩ (.func (.func 128) #[] #[.pointer (some ⟨w.heap.size, 0, none⟩)])) ((w.alloc (.cells #[.slice A l.length c] 26)).alloc (.cells #[.nilFunc] 176)) = .ok () (((w.alloc (.cells #[.slice A l.length c] 26)).alloc (.cells #[.nilFunc] 176)).setCell ⟨w.heap.size + 1, 0, none⟩ (.func (.func 128) #[] #[.pointer (some ⟨w.heap.size, 0, none⟩)])) := by
    refine (run_store _ _ _ _ _ rfl).trans ?_
    simp [stored, q0, q1]
  have K1 := ((Blk.new w 26 #[.slice A l.length c]).alloc (.cells #[wayF w.heap.size] 176))
  have K2 := Blk.snd w (.cells #[.slice A l.length c] 26) 176 #[wayF w.heap.size]
  have hsz : ((w.alloc (.cells #[.slice A l.length c] 26)).alloc (.cells #[wayF w.heap.size] 176)).heap.size = w.heap.size + 1 + 1 := by simp
  have M0 : Pure w ((w.alloc (.cells #[.slice A l.length c] 26)).alloc (.cells #[wayF w.heap.size] 176)) := (pure_alloc _ _).trans (pure_alloc _ _)
  have q3 : ((w.alloc (.cells #[.slice A l.length c] 26)).alloc (.cells #[wayF w.heap.size] 176)).cell? ⟨w.heap.size, 0, none⟩ = some (.slice A l.length c) := K1.cell 0
  have HK1 := Lib.hid K1
  have HK2 := Lib.hid K2
  have HSZ := Lib.hid hsz
  have HM0 := Lib.hid M0
  have HST := Lib.hid (rfl : wayF w.heap.size = wayF w.heap.size)
  clear B0 K1 K2 hsz M0
  unfold wayF at q3 HK1 HK2 HSZ HM0
  go_enter Tryz.func74, Tryz.ntmps74
  go_wp2_with fail
  have hgc1 : w.heap.size ≤ w.heap.size := Nat.le_refl _
  generalize ((w.alloc (.cells #[.slice A l.length c] 26)).alloc (.cells #[.func (.func 128) #[] #[.pointer (some ⟨w.heap.size, 0, none⟩)]] 176)) = W1 at *
  have HWF : Hid (∀ gc, (Value.func (.func 128) #[] #[.pointer (some ⟨gc, 0, none⟩)]) = wayF gc) := Lib.hid (fun _ => rfl)
  clear hst q0 q1 HST
  have hgm := HSZ.out.symm
  have O1 := World.ownsRow_lit (base := W1.heap.size) (e := 3) (size := 1) W1 (natsV (List.replicate l.length 0)).toArray l.length (by simp [natsV_len]) (by simp [maxLen]; omega) (by simp [natsV_len])
  rw [hgm] at ⊢
  have hs1 := Nat.le_of_eq HSZ.out
  have hs2 := Nat.le_of_eq HSZ.out.symm
  clear hgm HSZ hmk
  obtain ⟨gc, hgc⟩ : ∃ gc, gc = w.heap.size := ⟨_, rfl⟩
  rw [← hgc] at HK1 HK2 hs1 hs2 q3 ⊢
  have hgc2 := Nat.le_of_eq hgc
  have hgc3 := Nat.le_of_eq hgc.symm
  clear hgc hgc1
  have MW := pure_alloc W1 (.cells (natsV (List.replicate l.length 0)).toArray 3)
  have K1 := Lib.hid (HK1.out.alloc (.cells (natsV (List.replicate l.length 0)).toArray 3))
  have K2 := Lib.hid (HK2.out.alloc (.cells (natsV (List.replicate l.length 0)).toArray 3))
  have M2 := Lib.hid (HM0.out.trans MW)
  generalize (W1.alloc (.cells (natsV (List.replicate l.length 0)).toArray 3)) = W2 at *
  generalize W1.heap.size = gm at *
  have HO1 := Lib.hid O1
  have HVW : Hid (∀ W, Mod (· = gm) W2 W → Pure w W ∧ Its W (.slice A l.length c) l ∧ W.cell? ⟨gc, 0, none⟩ = some (.slice A l.length c) ∧ W.cell? ⟨gc + 1, 0, none⟩ = some (wayF gc)) := Lib.hid (fun W h => by
    have hp : Pure w W := M2.out.trans' h (fun i hi hlt => by omega)
    exact ⟨hp, HV.out.pure hp, (K1.out.mod h (by omega)).cell 0, (K2.out.mod h (by omega)).cell 0⟩)
  clear O1 MW HK1 HK2 HM0 K1 K2 M2 HV W1 q3 HWF
  go_loopg [16] l.length (fun gk k wr => FiRel W2 gm l.length gk k wr)
  case atStart => exact ⟨0, by omega, by omega, rfl, by simpa using HO1.out, Mod.refl _ _⟩
  case round =>
    clear HO1
    obtain ⟨m, rfl, hm, rfl, hown, hM⟩ := hrel
    by_cases hlt : m < l.length
    · have c0 := hown.cellAt m (by omega)
      have c1 := hown.frozenAt m
      have c2 : (natsV (List.range m ++ List.replicate (l.length - m) 0))[m]? = some (.int .i64 0) := by
        rw [natsV_append, List.getElem?_append_right (by simp [natsV_len]), natsV_len, List.length_range, Nat.sub_self]
        rw [natsV_get _ 0 (by simp; omega)]
        simp
      rw [c2] at c0
      obtain ⟨hset, hgr⟩ := hown.stored m (.int .i64 (m : Int))
      rw [natsV_set, fill_set _ _ hlt] at hset
      have hM2 := Lib.hid (hM.setCell (p := ⟨gm, m, none⟩) (.inl rfl) (.int .i64 (m : Int)))
      have HSET := Lib.hid hset
      have i1 : (0 : Int) ≤ (m : Int) := by omega
      have i2 : (m : Int) < (l.length : Int) := by omega
      clear hown hM hset hgr c2
      go_wp2_with fail
      go_roundg (l.length - (m + 1))
      case measure => omega
      case rel => exact ⟨m + 1, rfl, by omega, rfl, HSET.out, hM2.out⟩
    · obtain rfl : m = l.length := by omega
      have hO : wr.ownsRow gm 3 1 (.slice (some ⟨gm, 0, none⟩) l.length l.length) l.length (natsV (List.range l.length)) := by simpa using hown
      have HSO := Lib.hid (order_calls wr gm (gc + 1) gc (.slice A l.length c) l HR.out hl hO (fun W h => (HVW.out W (hM.trans h)).2))
      have HM := Lib.hid hM
      clear hown hO hM
      go_wp2_with fail
      refine HSO.out.mono ?_
      rintro e w3 ⟨rfl, hord, hm3⟩
      obtain ⟨P3, V3, C3, _⟩ := HVW.out w3 (HM.out.trans hm3)
      have hle : (allI l).length = l.length := by have := (all_perm' HR.out).length_eq; simpa using this
      have hle1 := Nat.le_of_eq hle
      have hle2 := Nat.le_of_eq hle.symm
      have HORD : Hid (∀ W, Pure w3 W → ∀ k (hk : k < (allI l).length), W.cell? ⟨gm, k, none⟩ = some (.int .i64 ((allI l)[k] : Int))) := Lib.hid (fun W h k hk => h.keep (hord k hk) id)
      have HC3 : Hid (∀ W, Pure w3 W → W.cell? ⟨gc, 0, none⟩ = some (.slice A l.length c)) := Lib.hid (fun W h => h.keep C3 id)
      have HV3 := Lib.hid V3
      have HP3 := Lib.hid P3
      have hgl : gc < w3.heap.size := lt_of_cell C3
      clear hm3 hord P3 V3 C3 hle HSO HM HVW
      obtain ⟨base, hba⟩ : ∃ base, base = w3.heap.size := ⟨_, rfl⟩
      have hb1 := Nat.le_of_eq hba
      have hb2 := Nat.le_of_eq hba.symm
      clear hba
      go_wp2_with fail
      go_loopg [6, 29] (allI l).length (fun gk x i wr => FoRel w3 base l gk x i wr)
      case atStart => exact ⟨0, [], none, 0, by omega, by omega, rfl, rfl, by simp [fmS, famT, foldK], ⟨⟨rfl, .inl ⟨rfl, rfl⟩⟩, .inl rfl⟩, Mod.refl _ _, hb1⟩
      case round =>
        obtain ⟨k, fs, Ao, cap, rfl, hk, rfl, rfl, hfs, hown, hm, hsz⟩ := hrel
        by_cases hlt : k < (allI l).length
        · obtain ⟨hfl, hfi⟩ := fo_len hk hfs
          have hi : (allI l)[k] < l.length := (mem_all HR.out.end5 _).1 (List.getElem_mem hlt)
          have q1 := HORD.out wr hm k hlt
          have HTOP := Lib.hid (HR.out.top_iff hi)
          have HF1 := Lib.hid (foldK_succ hlt)
          have HFN : Hid (upI l (allI l)[k] ≠ none → foldK l k ≠ []) := Lib.hid (fun h => by
            refine foldK_ne ?_ hk
            rcases Nat.eq_zero_or_pos k with rfl | h0
            · exact absurd (all_first l hlt) h
            · exact h0)
          generalize (allI l)[k] = i at *
          have HII : Hid (l[i].id = idAt2 l i) := Lib.hid (idAt2_eq hi).symm
          obtain ⟨A', n', c', he, _, _, hl2, hr⟩ := HV3.out
          injection he with he1 he2 he3
          subst he1 he2 he3
          obtain ⟨g, off, rfl, hrow⟩ := hr (by omega)
          clear hl2 hr
          have hgb : g < base := Nat.lt_of_lt_of_le hrow.lt (by omega)
          have HCI : Hid (∀ W, Pure w3 W → W.cell? ⟨g, off + i * 7, none⟩ = some (.string ⟨l[i].id.toArray⟩)) := Lib.hid (fun W h => (item_cells (hrow.mod h id) hi).1)
          have q2 := (item_cells (hrow.mod hm id) hi).2.2.2.2.2.1
          have q3 := HC3.out wr hm
          have q4 := HCI.out wr hm
          have i1 : (0 : Int) ≤ (i : Int) := by omega
          have i2 : (i : Int) < (l.length : Int) := by omega
          have HFS := Lib.hid hfs
          have HOWN := Lib.hid hown
          have HHM := Lib.hid hm
          have hown1 := hown.1
          clear hrow hfs hown hm
          go_upto_if 38 with (fail)
          go_cut [6] (fun x wx => FoCut w3 base l k i x wx)
          case first =>
            cases he : l[i].par.isEmpty
            · have hne : upI l i ≠ none := fun h => by
                rw [HTOP.out.1 h] at he
                cases he
              have HNE := Lib.hid hne
              clear hne
              go_wp2_with fail
              go_meet
              have hfn : fs ≠ [] := by
                rintro rfl
                have h := HFS.out
                simp only [fmS, List.map_nil] at h
                refine HFN.out HNE.out ?_
                unfold famT at h
                exact List.map_eq_nil_iff.1 h.symm
              refine foCut_mk HOWN.out hfn ?_ (by omega) hfi HHM.out hsz
              rintro fs0 p rfl
              rw [HF1.out]
              refine (famT_kid HNE.out (fs0 := fmS fs0) (p := (p.1, p.2.2)) ?_).symm
              rw [← HFS.out]
              simp [fmS]
            · have htop : upI l i = none := HTOP.out.2 (by simpa using he)
              have HT := Lib.hid htop
              clear htop
              go_wp2_with (at_builtin; refine wpList_append_lies _ rfl _ _ _ rfl base 103 i0 _ 2 40 Tryz.underlying114 hi0 hz0 hz1 hz2 rfl (by omega) (.slice Ao fs.length cap) fs.length (fmV fs) rfl (hown1.alloc _) ⟨wr.heap.size, 0, none⟩ 1 1 [.string ⟨l[i].id.toArray⟩, .slice none 0 0] rfl rfl (World.news_of_block (cs := #[.string ⟨l[i].id.toArray⟩, .slice none 0 0]) (t := 103) (fr := (0, 0)) (heap_alloc_new wr _)) (by simp [Value.oneCell']) (by omega) (by simp [maxLen]; omega) (by omega) (by have := HHM.out.size; simp; omega) (wr.heap.size + 1) (by simp) ?_; intro g5 cap5 w5 hown5 hgrow hat hlt5)
              go_meet
              have hT := (HOWN.out.pure (pure_alloc wr _)).top hgrow rfl hown5 (by simp; omega)
              refine foCut_mk hT (by simp) ?_ (by simp; omega) ?_ ((HHM.out.alloc _).grown hgrow (fun k hk => .inr (by have := own_block hown1 k hk; omega))) (Nat.le_trans (by simp; omega) hgrow.size)
              · rintro fs0 p hp
                obtain ⟨h1, h2⟩ := List.append_inj' hp (by simp)
                injection h2 with h2 _
                subst h1 h2
                rw [HF1.out, famT_top HT.out, ← HFS.out, HII.out]
                rfl
              · intro p hp
                rcases List.mem_append.1 hp with hp | hp
                · exact hfi p hp
                · rw [List.mem_singleton.1 hp]
                  simp
          case rest =>
            clear HFS HOWN HHM hown1 hfl hfi hsz HTOP HF1 HFN q1 q2 q3 q4
            obtain ⟨fs0, t, Ai, ids, ci, gf, cf, bl, rfl, hL, hEQ, hm, hsz, hf0, hid⟩ := hcut
            generalize l[i].id = idv at *
            have HOL : Hid (∀ j, (Value.slice Ai ids.length ci).ownBlock = some j → j < wc.heap.size) := Lib.hid (fun j hj => (hL.own.lt j hj).2)
            have hgf := hL.lt
            have hgf1 := hgf.1
            have hgf2 := hgf.2
            have hbl1 := hL.b1
            have hbl2 := hL.b2
            have HL := Lib.hid hL
            have HEQ := Lib.hid hEQ
            have HMC := Lib.hid hm
            have q3 := HC3.out wc hm
            have q4 := HCI.out wc hm
            clear hL hEQ hm hgf hi0 hz0 hz1 hz2 i0
            obtain ⟨i0, hi0, hz0, hz1, hz2⟩ := info_parts info_str7
            go_wp2_with fail
            have HGs := Lib.hid (show ∀ (D : Nat → Bool) (zzi : Nat) (zq zq' : World), zzi ≠ 11 → (fun D zq => (D 11 = false → (fun Z => FoLast Z base gf cf bl fs0 t (.slice Ai ids.length ci) ids) zq) ∧ (fun Z => Z.cell? ⟨gc, 0, none⟩ = some (.slice (some ⟨g, off, none⟩) l.length c) ∧ Z.cell? ⟨g, off + i * 7, none⟩ = some (.string ⟨idv.toArray⟩)) zq) D zq → Mod (fun _ => False) zq zq' → (fun D zq => (D 11 = false → (fun Z => FoLast Z base gf cf bl fs0 t (.slice Ai ids.length ci) ids) zq) ∧ (fun Z => Z.cell? ⟨gc, 0, none⟩ = some (.slice (some ⟨g, off, none⟩) l.length c) ∧ Z.cell? ⟨g, off + i * 7, none⟩ = some (.string ⟨idv.toArray⟩)) zq) (upd D zzi true) zq' from by intro D zzi zq zq' hi hh hm; refine ⟨fun hs => ?_, ?_⟩; (rw [upd_ne _ _ (Ne.symm hi)] at hs; have h := hh.1 hs; (exact h.pure hm)); (have h := hh.2; (exact ⟨hm.keep h.1 _root_.id, hm.keep h.2 _root_.id⟩)))
            refine wp_region_inv (by kernel_rfl) (by kernel_rfl) (InvF (R := Mod (fun _ => False)) [.is (.pointer (some ⟨gf, fs0.length * 2, none⟩)),
                .is (.pointer (some ⟨gf, fs0.length * 2, none⟩)),
                .is (.pointer (some ⟨gf, fs0.length * 2, none⟩)),
                .is (.pointer (some ⟨gf, fs0.length * 2 + 1, none⟩)),
                .is (.slice Ai ids.length ci),
                .is (.slice (some ⟨g, off, none⟩) l.length c),
                .is (.int .i64 (i : Int)),
                .is (.pointer (some ⟨g, off + i * 7, none⟩)),
                .is (.pointer (some ⟨g, off + i * 7, none⟩)),
                .is (.string ⟨idv.toArray⟩),
                ⟨fun zv zw => ∃ (g_10 : Nat), zv = .slice (some ⟨g_10, 0, none⟩) 1 1 ∧ wc.heap.size ≤ g_10 ∧ Blk zw g_10 9 #[.string ⟨idv.toArray⟩], (by rintro zv zw zx ⟨g_10, rfl, c0, q0⟩ hm; exact ⟨g_10, rfl, c0, (q0.modp hm)⟩), none, some 11⟩,
                ⟨fun zv zw => ∃ (g_11 : Nat) (c_11 : Nat), zv = .slice (some ⟨g_11, 0, none⟩) (ids.length + 1) c_11 ∧ FoPre zw base gf cf bl fs0 t (.slice Ai ids.length ci) ids idv (.slice (some ⟨g_11, 0, none⟩) (ids.length + 1) c_11), (by rintro zv zw zx ⟨g_11, c_11, rfl, q0⟩ hm; exact ⟨g_11, c_11, rfl, (q0.pure hm)⟩), none, some 14⟩,
                .is (.pointer (some ⟨gf, fs0.length * 2, none⟩)),
                .is (.pointer (some ⟨gf, fs0.length * 2 + 1, none⟩)),
                ⟨fun zv zw => zv = undef ∧ FoNew zw base gf cf fs0 t ids idv, (by rintro zv zw zx ⟨rfl, q0⟩ hm; exact ⟨rfl, (q0.pure hm)⟩), none, none⟩]
                (PB w3 (fun _ => False) wc.heap.size (fun D zq => (D 11 = false → (fun Z => FoLast Z base gf cf bl fs0 t (.slice Ai ids.length ci) ids) zq) ∧ (fun Z => Z.cell? ⟨gc, 0, none⟩ = some (.slice (some ⟨g, off, none⟩) l.length c) ∧ Z.cell? ⟨g, off + i * 7, none⟩ = some (.string ⟨idv.toArray⟩)) zq))) (InvF.start (PB.start HMC.out (Nat.le_refl _) (⟨fun _ => HL.out.pure ((Mod.refl _ _).drew), ⟨q3, q4⟩⟩))) ?_ ?_
            · refine .cons ?_ (.cons ?_ (.cons ?_ (.cons ?_ (.cons ?_ (.cons ?_ (.cons ?_ (.cons ?_ (.cons ?_ (.cons ?_ (.cons ?_ (.cons ?_ (.cons ?_ (.cons ?_ (.cons ?_ .nil))))))))))))))
              · intro D V zw1 a hR hI K hK
                obtain ⟨hM1, hB1, hG1⟩ := hI.1
                obtain ⟨hGK, hG1⟩ := hG1
                obtain ⟨hG1a, hG1b⟩ := hG1
                have ze9 := hR.frame.other (t := 9) (by kernel_rfl) rfl
                rw [if_pos (by rfl)]
                go_simp
                exact hK (.pointer (some ⟨gf, fs0.length * 2, none⟩)) _ (hI.next hR (by kernel_rfl) (Mod.refl _ _) (PB.quiet hI.1 (Mod.refl _ _) (HGs.out D 0 zw1 zw1 (by omega) (hI.1).g (Mod.refl _ _))) (upd_same V 0 _))
              · intro D V zw1 a hR hI K hK
                obtain ⟨hM1, hB1, hG1⟩ := hI.1
                obtain ⟨hGK, hG1⟩ := hG1
                obtain ⟨hG1a, hG1b⟩ := hG1
                have ze9 := hR.frame.other (t := 9) (by kernel_rfl) rfl
                rw [if_pos (by rfl)]
                go_simp
                exact hK (.pointer (some ⟨gf, fs0.length * 2, none⟩)) _ (hI.next hR (by kernel_rfl) (Mod.refl _ _) (PB.quiet hI.1 (Mod.refl _ _) (HGs.out D 1 zw1 zw1 (by omega) (hI.1).g (Mod.refl _ _))) (upd_same V 1 _))
              · intro D V zw1 a hR hI K hK
                obtain ⟨hM1, hB1, hG1⟩ := hI.1
                obtain ⟨hGK, hG1⟩ := hG1
                obtain ⟨hG1a, hG1b⟩ := hG1
                have zd1 := hR.pred 1 (by kernel_rfl)
                have zF1 : V 1 = .pointer (some ⟨gf, fs0.length * 2, none⟩) := hI.2 1 zd1 rfl
                have zf1 := zF1; clear zF1
                have ze54 := hR.frame.done (t := 54) (j := 1) (by kernel_rfl) hR.ok zd1
                rw [if_pos (by rfl)]
                go_simp
                exact hK (.pointer (some ⟨gf, fs0.length * 2, none⟩)) _ (hI.next hR (by kernel_rfl) (Mod.refl _ _) (PB.quiet hI.1 (Mod.refl _ _) (HGs.out D 2 zw1 zw1 (by omega) (hI.1).g (Mod.refl _ _))) (upd_same V 2 _))
              · intro D V zw1 a hR hI K hK
                obtain ⟨hM1, hB1, hG1⟩ := hI.1
                obtain ⟨hGK, hG1⟩ := hG1
                obtain ⟨hG1a, hG1b⟩ := hG1
                have zd2 := hR.pred 2 (by kernel_rfl)
                have zF2 : V 2 = .pointer (some ⟨gf, fs0.length * 2, none⟩) := hI.2 2 zd2 rfl
                have zf2 := zF2; clear zF2
                have ze55 := hR.frame.done (t := 55) (j := 2) (by kernel_rfl) hR.ok zd2
                rw [if_pos (by rfl)]
                go_simp
                exact hK (.pointer (some ⟨gf, fs0.length * 2 + 1, none⟩)) _ (hI.next hR (by kernel_rfl) (Mod.refl _ _) (PB.quiet hI.1 (Mod.refl _ _) (HGs.out D 3 zw1 zw1 (by omega) (hI.1).g (Mod.refl _ _))) (upd_same V 3 _))
              · intro D V zw1 a hR hI K hK
                obtain ⟨hM1, hB1, hG1⟩ := hI.1
                obtain ⟨hGK, hG1⟩ := hG1
                obtain ⟨hG1a, hG1b⟩ := hG1
                have zd3 := hR.pred 3 (by kernel_rfl)
                have zF3 : V 3 = .pointer (some ⟨gf, fs0.length * 2 + 1, none⟩) := hI.2 3 zd3 rfl
                have zf3 := zF3; clear zF3
                have ze56 := hR.frame.done (t := 56) (j := 3) (by kernel_rfl) hR.ok zd3
                have zx0 := (hGK (hR.later 11 rfl (by kernel_rfl))).cell
                rw [if_pos (by rfl)]
                go_simp
                exact hK (.slice Ai ids.length ci) _ (hI.next hR (by kernel_rfl) (Mod.refl _ _) (PB.quiet hI.1 (Mod.refl _ _) (HGs.out D 4 zw1 zw1 (by omega) (hI.1).g (Mod.refl _ _))) (upd_same V 4 _))
              · intro D V zw1 a hR hI K hK
                obtain ⟨hM1, hB1, hG1⟩ := hI.1
                obtain ⟨hGK, hG1⟩ := hG1
                obtain ⟨hG1a, hG1b⟩ := hG1
                have ze1 := hR.frame.other (t := 1) (by kernel_rfl) rfl
                have zx0 := hG1a
                rw [if_pos (by rfl)]
                go_simp
                exact hK (.slice (some ⟨g, off, none⟩) l.length c) _ (hI.next hR (by kernel_rfl) (Mod.refl _ _) (PB.quiet hI.1 (Mod.refl _ _) (HGs.out D 5 zw1 zw1 (by omega) (hI.1).g (Mod.refl _ _))) (upd_same V 5 _))
              · intro D V zw1 a hR hI K hK
                obtain ⟨hM1, hB1, hG1⟩ := hI.1
                obtain ⟨hGK, hG1⟩ := hG1
                obtain ⟨hG1a, hG1b⟩ := hG1
                have ze8 := hR.frame.other (t := 8) (by kernel_rfl) rfl
                rw [if_pos (by rfl)]
                go_simp
                exact hK (.int .i64 (i : Int)) _ (hI.next hR (by kernel_rfl) (Mod.refl _ _) (PB.quiet hI.1 (Mod.refl _ _) (HGs.out D 6 zw1 zw1 (by omega) (hI.1).g (Mod.refl _ _))) (upd_same V 6 _))
              · intro D V zw1 a hR hI K hK
                obtain ⟨hM1, hB1, hG1⟩ := hI.1
                obtain ⟨hGK, hG1⟩ := hG1
                obtain ⟨hG1a, hG1b⟩ := hG1
                have zd5 := hR.pred 5 (by kernel_rfl)
                have zF5 : V 5 = .slice (some ⟨g, off, none⟩) l.length c := hI.2 5 zd5 rfl
                have zf5 := zF5; clear zF5
                have zd6 := hR.pred 6 (by kernel_rfl)
                have zF6 : V 6 = .int .i64 (i : Int) := hI.2 6 zd6 rfl
                have zf6 := zF6; clear zF6
                have ze58 := hR.frame.done (t := 58) (j := 5) (by kernel_rfl) hR.ok zd5
                have ze59 := hR.frame.done (t := 59) (j := 6) (by kernel_rfl) hR.ok zd6
                rw [if_pos (by rfl)]
                go_simp
                exact hK (.pointer (some ⟨g, off + i * 7, none⟩)) _ (hI.next hR (by kernel_rfl) (Mod.refl _ _) (PB.quiet hI.1 (Mod.refl _ _) (HGs.out D 7 zw1 zw1 (by omega) (hI.1).g (Mod.refl _ _))) (upd_same V 7 _))
              · intro D V zw1 a hR hI K hK
                obtain ⟨hM1, hB1, hG1⟩ := hI.1
                obtain ⟨hGK, hG1⟩ := hG1
                obtain ⟨hG1a, hG1b⟩ := hG1
                have zd7 := hR.pred 7 (by kernel_rfl)
                have zF7 : V 7 = .pointer (some ⟨g, off + i * 7, none⟩) := hI.2 7 zd7 rfl
                have zf7 := zF7; clear zF7
                have ze60 := hR.frame.done (t := 60) (j := 7) (by kernel_rfl) hR.ok zd7
                rw [if_pos (by rfl)]
                go_simp
                exact hK (.pointer (some ⟨g, off + i * 7, none⟩)) _ (hI.next hR (by kernel_rfl) (Mod.refl _ _) (PB.quiet hI.1 (Mod.refl _ _) (HGs.out D 8 zw1 zw1 (by omega) (hI.1).g (Mod.refl _ _))) (upd_same V 8 _))
              · intro D V zw1 a hR hI K hK
                obtain ⟨hM1, hB1, hG1⟩ := hI.1
                obtain ⟨hGK, hG1⟩ := hG1
                obtain ⟨hG1a, hG1b⟩ := hG1
                have zd8 := hR.pred 8 (by kernel_rfl)
                have zF8 : V 8 = .pointer (some ⟨g, off + i * 7, none⟩) := hI.2 8 zd8 rfl
                have zf8 := zF8; clear zF8
                have ze61 := hR.frame.done (t := 61) (j := 8) (by kernel_rfl) hR.ok zd8
                have zx0 := hG1b
                rw [if_pos (by rfl)]
                go_simp
                exact hK (.string ⟨idv.toArray⟩) _ (hI.next hR (by kernel_rfl) (Mod.refl _ _) (PB.quiet hI.1 (Mod.refl _ _) (HGs.out D 9 zw1 zw1 (by omega) (hI.1).g (Mod.refl _ _))) (upd_same V 9 _))
              · intro D V zw1 a hR hI K hK
                obtain ⟨hM1, hB1, hG1⟩ := hI.1
                obtain ⟨hGK, hG1⟩ := hG1
                obtain ⟨hG1a, hG1b⟩ := hG1
                have zd9 := hR.pred 9 (by kernel_rfl)
                have zF9 : V 9 = .string ⟨idv.toArray⟩ := hI.2 9 zd9 rfl
                have zf9 := zF9; clear zF9
                have ze62 := hR.frame.done (t := 62) (j := 9) (by kernel_rfl) hR.ok zd9
                rw [if_pos (by rfl)]
                go_simp
                exact hK (_) _ (hI.next hR (by kernel_rfl) ((Mod.refl _ _).alloc _) (PB.quiet hI.1 (pure_alloc _ _) (HGs.out D 10 _ _ (by omega) (hI.1).g ((Mod.refl _ _).alloc _))) (⟨_, upd_same V 10 _, (by omega), (Blk.new _ _ _)⟩))
              · intro D V zw1 a hR hI K hK
                obtain ⟨hM1, hB1, hG1⟩ := hI.1
                obtain ⟨hGK, hG1⟩ := hG1
                obtain ⟨hG1a, hG1b⟩ := hG1
                have zd4 := hR.pred 4 (by kernel_rfl)
                have zF4 : V 4 = .slice Ai ids.length ci := hI.2 4 zd4 rfl
                have zf4 := zF4; clear zF4
                have zd10 := hR.pred 10 (by kernel_rfl)
                have zF10 : ∃ (g_10 : Nat), V 10 = .slice (some ⟨g_10, 0, none⟩) 1 1 ∧ wc.heap.size ≤ g_10 ∧ Blk zw1 g_10 9 #[.string ⟨idv.toArray⟩] := hI.2 10 zd10 (by show (!D 11) = true; rw [hR.not]; rfl)
                obtain ⟨g_10, zf10, c10_0, b10_0⟩ := zF10
                have ze57 := hR.frame.done (t := 57) (j := 4) (by kernel_rfl) hR.ok zd4
                have ze63 := hR.frame.done (t := 63) (j := 10) (by kernel_rfl) hR.ok zd10
                rw [if_pos (by rfl)]
                have hown := (hGK hR.not).own
                refine wp_append_lies _ (.tmp 57) (.tmp 63) 29 (by rfl) bl 9 i0 _ 1 16 Tryz.underlying29 hi0 hz0 hz1 hz2 (by rfl) (by omega) (.slice Ai ids.length ci) (ids.length) (strsV ids) ?_ hown ⟨g_10, 0, none⟩ 1 1 [.string ⟨idv.toArray⟩] ?_ (by rfl) (World.news_of_block (cs := #[.string ⟨idv.toArray⟩]) (t := 9) (fr := (0, 0)) b10_0) (by simp [Value.oneCell']) (by omega) (by simp [maxLen]; omega) (by omega) (by omega) zw1.heap.size rfl ?_
                · show a.tmps.getD 57 undef = _; simp [ze57, zf4]
                · show a.tmps.getD 63 undef = _; simp [ze63, zf10]
                intro g5 cap5 zw2 hown5 hgrow hat hlt5
                have hT := mod_grown hgrow
                have hTb : ∀ j, (.slice Ai ids.length ci : Value).ownBlock = some j → bl ≤ j := own_block hown
                have hTl : ∀ j, (.slice Ai ids.length ci : Value).ownBlock = some j → j < wc.heap.size := HOL.out
                refine hK _ _ (InvF.last (PB.writes hI.1 (fun j hj hl => by have := hTb j hj; omega) hT ⟨fun hs => absurd hs (by rw [upd_same]; decide), ⟨hT.keep hG1a (fun h => by have h3 : bl ≤ gc := hTb _ h; omega), hT.keep hG1b (fun h => by have h3 : bl ≤ g := hTb _ h; omega)⟩⟩) ⟨_, _, upd_same V 11 _, ⟨_, _, hGK hR.not, hgrow, rfl, hown5⟩⟩ ?_)
                intro k hk hDk hlv
                have hkl := hR.lt k hDk
                have hv := hI.2 k hDk (liveB_of hlv)
                match k, hk, hDk, hlv, hkl, hv with
                | 0, _, _, _, _, hv => exact hv
                | 1, _, _, _, _, hv => exact hv
                | 2, _, _, _, _, hv => exact hv
                | 3, _, _, _, _, hv => exact hv
                | 4, _, _, _, _, hv => exact hv
                | 5, _, _, _, _, hv => exact hv
                | 6, _, _, _, _, hv => exact hv
                | 7, _, _, _, _, hv => exact hv
                | 8, _, _, _, _, hv => exact hv
                | 9, _, _, _, _, hv => exact hv
                | 10, _, _, hlv, _, _ => exact absurd hlv (by show ¬ (!upd D 11 true 11) = true; rw [upd_same]; decide)
                | 11, hk, _, _, _, _ => exact absurd rfl hk
                | 12, _, _, _, _, hv => exact hv
                | 13, _, _, _, _, hv => exact hv
                | 14, _, hDk, _, _, _ => exact absurd hDk (by rw [hR.later 14 rfl (by kernel_rfl)]; decide)
                | k + 15, _, _, _, hkl, _ => exact absurd hkl (by simp)
              · intro D V zw1 a hR hI K hK
                obtain ⟨hM1, hB1, hG1⟩ := hI.1
                obtain ⟨hGK, hG1⟩ := hG1
                obtain ⟨hG1a, hG1b⟩ := hG1
                have zd0 := hR.pred 0 (by kernel_rfl)
                have zF0 : V 0 = .pointer (some ⟨gf, fs0.length * 2, none⟩) := hI.2 0 zd0 rfl
                have zf0 := zF0; clear zF0
                have ze53 := hR.frame.done (t := 53) (j := 0) (by kernel_rfl) hR.ok zd0
                rw [if_pos (by rfl)]
                go_simp
                exact hK (.pointer (some ⟨gf, fs0.length * 2, none⟩)) _ (hI.next hR (by kernel_rfl) (Mod.refl _ _) (PB.quiet hI.1 (Mod.refl _ _) (HGs.out D 12 zw1 zw1 (by omega) (hI.1).g (Mod.refl _ _))) (upd_same V 12 _))
              · intro D V zw1 a hR hI K hK
                obtain ⟨hM1, hB1, hG1⟩ := hI.1
                obtain ⟨hGK, hG1⟩ := hG1
                obtain ⟨hG1a, hG1b⟩ := hG1
                have zd12 := hR.pred 12 (by kernel_rfl)
                have zF12 : V 12 = .pointer (some ⟨gf, fs0.length * 2, none⟩) := hI.2 12 zd12 rfl
                have zf12 := zF12; clear zF12
                have ze65 := hR.frame.done (t := 65) (j := 12) (by kernel_rfl) hR.ok zd12
                rw [if_pos (by rfl)]
                go_simp
                exact hK (.pointer (some ⟨gf, fs0.length * 2 + 1, none⟩)) _ (hI.next hR (by kernel_rfl) (Mod.refl _ _) (PB.quiet hI.1 (Mod.refl _ _) (HGs.out D 13 zw1 zw1 (by omega) (hI.1).g (Mod.refl _ _))) (upd_same V 13 _))
              · intro D V zw1 a hR hI K hK
                obtain ⟨hM1, hB1, hG1⟩ := hI.1
                obtain ⟨hGK, hG1⟩ := hG1
                obtain ⟨hG1a, hG1b⟩ := hG1
                have zd13 := hR.pred 13 (by kernel_rfl)
                have zF13 : V 13 = .pointer (some ⟨gf, fs0.length * 2 + 1, none⟩) := hI.2 13 zd13 rfl
                have zf13 := zF13; clear zF13
                have zd11 := hR.pred 11 (by kernel_rfl)
                have zF11 : ∃ (g_11 : Nat) (c_11 : Nat), V 11 = .slice (some ⟨g_11, 0, none⟩) (ids.length + 1) c_11 ∧ FoPre zw1 base gf cf bl fs0 t (.slice Ai ids.length ci) ids idv (.slice (some ⟨g_11, 0, none⟩) (ids.length + 1) c_11) := hI.2 11 zd11 (by show (!D 14) = true; rw [hR.not]; rfl)
                obtain ⟨g_11, c_11, zf11, b11_0⟩ := zF11
                have ze66 := hR.frame.done (t := 66) (j := 13) (by kernel_rfl) hR.ok zd13
                have ze64 := hR.frame.done (t := 64) (j := 11) (by kernel_rfl) hR.ok zd11
                rw [if_pos (by rfl)]
                have hP := b11_0
                have zx0 := hP.cell
                have zy0 : zw1.frozen? ⟨gf, fs0.length * 2 + 1, none⟩ = false := hP.outs.frozenAt _
                have hSt := hP.store
                go_simp
                refine hK undef _ (InvF.last ⟨hM1.setCell (.inr (by show _ ≤ gf; omega)) _, (by simpa using hB1), ⟨fun hs => absurd hs (by rw [upd_ne _ _ (by omega), hR.pred 11 (by kernel_rfl)]; decide), ⟨cell_far hG1a (by show gf ≠ gc; omega), cell_far hG1b (by show gf ≠ g; omega)⟩⟩⟩ ⟨upd_same _ 14 _, _, hSt⟩ ?_)
                intro k hk hDk hlv
                have hkl := hR.lt k hDk
                have hv := hI.2 k hDk (liveB_of hlv)
                match k, hk, hDk, hlv, hkl, hv with
                | 0, _, _, _, _, hv => exact hv
                | 1, _, _, _, _, hv => exact hv
                | 2, _, _, _, _, hv => exact hv
                | 3, _, _, _, _, hv => exact hv
                | 4, _, _, _, _, hv => exact hv
                | 5, _, _, _, _, hv => exact hv
                | 6, _, _, _, _, hv => exact hv
                | 7, _, _, _, _, hv => exact hv
                | 8, _, _, _, _, hv => exact hv
                | 9, _, _, _, _, hv => exact hv
                | 10, _, _, hlv, _, _ => exact absurd hlv (by show ¬ (!upd D 14 true 11) = true; rw [upd_ne _ _ (by omega), hR.pred 11 (by kernel_rfl)]; decide)
                | 11, _, _, hlv, _, _ => exact absurd hlv (by show ¬ (!upd D 14 true 14) = true; rw [upd_same]; decide)
                | 12, _, _, _, _, hv => exact hv
                | 13, _, _, _, _, hv => exact hv
                | 14, hk, _, _, _, _ => exact absurd rfl hk
                | k + 15, _, _, _, hkl, _ => exact absurd hkl (by simp)
            · intro D V w7 hD hI
              obtain ⟨hM1, hB1, hG1⟩ := hI.1
              have hMx := hM1
              clear hM1
              have hBx := hB1
              clear hB1
              have hGx := hG1.2
              clear hG1
              have zF0 : V 0 = .pointer (some ⟨gf, fs0.length * 2, none⟩) := hI.2 0 (hD 0 (by decide)) rfl
              have zf0 := zF0; clear zF0
              have zF1 : V 1 = .pointer (some ⟨gf, fs0.length * 2, none⟩) := hI.2 1 (hD 1 (by decide)) rfl
              have zf1 := zF1; clear zF1
              have zF2 : V 2 = .pointer (some ⟨gf, fs0.length * 2, none⟩) := hI.2 2 (hD 2 (by decide)) rfl
              have zf2 := zF2; clear zF2
              have zF3 : V 3 = .pointer (some ⟨gf, fs0.length * 2 + 1, none⟩) := hI.2 3 (hD 3 (by decide)) rfl
              have zf3 := zF3; clear zF3
              have zF4 : V 4 = .slice Ai ids.length ci := hI.2 4 (hD 4 (by decide)) rfl
              have zf4 := zF4; clear zF4
              have zF5 : V 5 = .slice (some ⟨g, off, none⟩) l.length c := hI.2 5 (hD 5 (by decide)) rfl
              have zf5 := zF5; clear zF5
              have zF6 : V 6 = .int .i64 (i : Int) := hI.2 6 (hD 6 (by decide)) rfl
              have zf6 := zF6; clear zF6
              have zF7 : V 7 = .pointer (some ⟨g, off + i * 7, none⟩) := hI.2 7 (hD 7 (by decide)) rfl
              have zf7 := zF7; clear zF7
              have zF8 : V 8 = .pointer (some ⟨g, off + i * 7, none⟩) := hI.2 8 (hD 8 (by decide)) rfl
              have zf8 := zF8; clear zF8
              have zF9 : V 9 = .string ⟨idv.toArray⟩ := hI.2 9 (hD 9 (by decide)) rfl
              have zf9 := zF9; clear zF9
              have zF12 : V 12 = .pointer (some ⟨gf, fs0.length * 2, none⟩) := hI.2 12 (hD 12 (by decide)) rfl
              have zf12 := zF12; clear zF12
              have zF13 : V 13 = .pointer (some ⟨gf, fs0.length * 2 + 1, none⟩) := hI.2 13 (hD 13 (by decide)) rfl
              have zf13 := zF13; clear zF13
              have zF14 : V 14 = undef ∧ FoNew w7 base gf cf fs0 t ids idv := hI.2 14 (hD 14 (by decide)) rfl
              obtain ⟨zf14, b14_0⟩ := zF14
              clear hI hD HGs
              simp only [frAll, Act.put, List.setIfInBounds_toArray, List.set_cons_zero, List.set_cons_succ, Nat.zero_add, Nat.reduceAdd, zf0, zf1, zf2, zf3, zf4, zf5, zf6, zf7, zf8, zf9, zf12, zf13, zf14]
              clear zf0 zf1 zf2 zf3 zf4 zf5 zf6 zf7 zf8 zf9 zf12 zf13 zf14
              generalize V 10 = u10
              generalize V 11 = u11
              clear V D
              obtain ⟨v5, hFN⟩ := b14_0
              have hsz7 := hMx.size
              have HFO := Lib.hid hFN
              have HMX := Lib.hid hMx
              clear hFN hMx
              go_wp2_with fail
              go_roundg ((allI l).length - (k + 1))
              case measure => omega
              case rel =>
                refine ⟨k + 1, fs0 ++ [(t, v5, ids ++ [idv])], some ⟨gf, 0, none⟩, cf, rfl, by omega, by simp, by simp, ?_, by simpa using HFO.out, HMX.out, by omega⟩
                rw [← HEQ.out, HII.out]
                simp [fmS]
        · obtain rfl : k = (allI l).length := by omega
          have HFO := Lib.hid hown
          have HHM := Lib.hid hm
          have HFS : Hid (fmS fs = famsS l) := Lib.hid (by rw [hfs, foldK_all])
          clear hown hm hfs
          go_wp2_with fail
          go_ret
          exact ⟨_, fs, rfl, HFO.out.fm, HFS.out, HP3.out.trans HHM.out⟩

end Go.Proofs.YtofkkenmkflmiaaGreatDoor

/- WholeOf of the reference. -/
namespace Go.Proofs.YtofkkenmkflmiaaGreatDoor
set_option linter.unusedVariables false
set_option linter.unusedSimpArgs false
open Go.RowKit


set_option maxRecDepth 100000 in
set_option maxHeartbeats 1000000 in
theorem indexSq_calls (w : World) (v : Value) (xs : List Str) (y : Str) (hv : Sl w 9 1 v (strsV xs)) : Calls Tryz.prog 73 #[v, .string ⟨y.toArray⟩] w (IntPost w (idxQ (fun x => y == x) xs 0)) := by
  obtain ⟨A, n, c, rfl, hc1, hc2, hl, hr⟩ := hv
  have hln : xs.length = n := by rw [strsV_len] at hl; omega
  subst hln
  have HR := Lib.hid hr
  clear hl hr
  go_enter Tryz.func73, Tryz.ntmps73
  go_wp2_with fail
  go_loopg [8] xs.length (fun gk i wr => ∃ k : Nat, xs.length - k = gk ∧ k ≤ xs.length ∧ i = .int .i64 (k : Int) ∧ idxQ (fun x => y == x) xs 0 = idxQ (fun x => y == x) (xs.drop k) (k : Int) ∧ w = wr)
  case atStart => exact ⟨0, by omega, by omega, rfl, rfl, rfl⟩
  case round =>
    obtain ⟨k, rfl, hk, rfl, hix, rfl⟩ := hrel
    have HIX := Lib.hid hix
    clear hix
    by_cases hlt : k < xs.length
    · obtain ⟨g, off, rfl, hrow⟩ := HR.out (by omega)
      have hq := hrow.cell (strsV_get xs k hlt)
      have hd : xs.drop k = xs[k] :: xs.drop (k + 1) := List.drop_eq_getElem_cons hlt
      have hi2 : idxQ (fun x => y == x) xs 0 = if (fun x => y == x) xs[k] then (k : Int) else idxQ (fun x => y == x) (xs.drop (k + 1)) ((k : Int) + 1) := by rw [HIX.out, hd]; rfl
      have HI2 := Lib.hid hi2
      clear hd hi2 hrow HIX
      generalize xs[k] = x at *
      have heq : (y == x) = (y == x) := by first | rfl | (exact Bool.eq_iff_iff.2 (by simp; try omega))
      cases hp : (y == x)
      · have hp2 := heq.trans hp
        have HP := Lib.hid hp
        clear hp heq
        go_wp2_with fail
        go_roundg (xs.length - (k + 1))
        case measure => omega
        case rel => exact ⟨k + 1, rfl, hlt, by simp, by rw [HI2.out]; simp only [HP.out]; simp, rfl⟩
      · have hp2 := heq.trans hp
        have HP := Lib.hid hp
        clear hp heq
        go_wp2_with fail
        go_ret
        exact IntPost.of (by rw [HI2.out]; simp only [HP.out]; simp) (Mod.refl _ _)
    · have hke : k = xs.length := by omega
      subst hke
      go_wp2_with fail
      go_ret
      exact IntPost.of (by rw [HIX.out, List.drop_of_length_le (Nat.le_refl _)]; rfl) (Mod.refl _ _)


set_option maxRecDepth 100000 in
set_option maxHeartbeats 1000000 in
theorem containsSq_calls (w : World) (v : Value) (xs : List Str) (y : Str) (hv : Sl w 9 1 v (strsV xs)) : Calls Tryz.prog 68 #[v, .string ⟨y.toArray⟩] w (BoolPost w (xs.any (fun x => y == x))) := by
  have HC := Lib.hid (indexSq_calls w v xs y hv)
  have HI := Lib.hid (idxQ_any (fun x => y == x) xs 0 (by omega))
  obtain ⟨A, n, c, rfl⟩ := hv.form
  clear hv
  go_enter Tryz.func68, Tryz.ntmps68
  go_wp2_with fail
  refine HC.out.mono ?_
  rintro e w1 ⟨rfl, hm1⟩
  generalize idxQ (fun x => y == x) xs 0 = r at *
  go_wp2_with fail
  go_ret
  exact BoolPost.of HI.out.symm hm1

theorem any_eq_mem (s : Str) (ids : List Str) : (ids.any fun x => s == x) = decide (s ∈ ids) := by
  rw [Bool.eq_iff_iff, decide_eq_true_eq, List.any_eq_true]
  constructor
  · rintro ⟨x, hx, h⟩
    rw [beq_iff_eq] at h
    subst h
    exact hx
  · intro h
    exact ⟨s, h, by simp⟩
end Go.Proofs.YtofkkenmkflmiaaGreatDoor

/- FamilyOf, ChildrenOf, DepthOf of the reference. -/
namespace Go.Proofs.YtofkkenmkflmiaaGreatDoor
set_option linter.unusedVariables false
set_option linter.unusedSimpArgs false
open Go.RowKit

def RFmPost (w : World) (l : List Itm) (id : Str) (e : Ending) (w' : World) : Prop :=
  ∃ (A : Option Addr) (n c : Nat), e = .returned (.agg #[.string ⟨(idAt2 l (tpI l (idxId l id))).toArray⟩, .slice A n c]) ∧ Sl w' 9 1 (.slice A n c) (strsV (fmB l id)) ∧ Pure w w'
theorem Right.fam_has {l : List Itm} (h : Right l) {id : Str} (hi : idxId l id < l.length) (hie : l[idxId l id].id = id) {k : Nat} (hk : k < (famsS l).length) (hk2 : k < (topsI l).length) :
    id ∈ (famsS l)[k].2 ↔ (topsI l)[k] = tpI l (idxId l id) := by
  have e : (famsS l)[k].2 = belS l 4 (topsI l)[k] := by simp [famsS]
  rw [e]
  have ht : (topsI l)[k] ∈ topsI l := List.getElem_mem hk2
  unfold belS
  rw [List.mem_map]
  constructor
  · rintro ⟨x, hx, he⟩
    obtain ⟨hxl, hxt⟩ := (h.bel_top ht).1 hx
    have : x = idxId l id := h.id2_inj hxl hi (by rw [he, idAt2_eq hi, hie])
    rw [← hxt, this]
  · intro he
    exact ⟨idxId l id, (h.bel_top ht).2 ⟨hi, he.symm⟩, by rw [idAt2_eq hi, hie]⟩
def RfRel (w : World) (g4 : Nat) (l : List Itm) (id : Str) (gk : Nat) (i : Value) (wr : World) : Prop :=
  ∃ k : Nat, (famsS l).length - k = gk ∧ k ≤ (famsS l).length ∧ i = .int .i64 (k : Int) ∧ (∀ j (hj : j < (famsS l).length), j < k → id ∉ (famsS l)[j].2) ∧ Blk wr g4 103 #[.string ⟨#[]⟩, .slice none 0 0] ∧ Pure w wr

set_option maxRecDepth 100000 in
set_option maxHeartbeats 8000000 in
theorem rfamilyOf_calls (w : World) (v : Value) (l : List Itm) (id : Str) (hv : Its w v l) (hR : Right l) (hl : l.length ≤ 12) (hi : idxId l id < l.length) (hie : l[idxId l id].id = id) : Calls Tryz.prog 64 #[v, .string ⟨id.toArray⟩] w (RFmPost w l id) := by
  have hp := pure_alloc w (.cells #[.string ⟨#[]⟩, .slice none 0 0] 103)
  have HFO := Lib.hid (familiesOf_calls _ v l (hv.pure hp) hR hl)
  have HB := Lib.hid (Blk.new w 103 #[.string ⟨#[]⟩, .slice none 0 0])
  have HP := Lib.hid hp
  have hfl : (famsS l).length = (topsI l).length := by simp [famsS]
  have HH : Hid (∀ k (hk : k < (famsS l).length) (hk2 : k < (topsI l).length), id ∈ (famsS l)[k].2 ↔ (topsI l)[k] = tpI l (idxId l id)) := Lib.hid (fun k hk hk2 => hR.fam_has hi hie hk hk2)
  have HTM := Lib.hid (hR.tpI_mem hi)
  obtain ⟨A, n, c, rfl⟩ := Sl.form hv
  clear hv hR hi hie hp
  go_enter Tryz.func64, Tryz.ntmps64
  go_wp2_with fail
  obtain ⟨g4, hg4⟩ : ∃ g4, g4 = w.heap.size := ⟨_, rfl⟩
  have hg1 := Nat.le_of_eq hg4
  have hg2 := Nat.le_of_eq hg4.symm
  rw [← hg4] at HB ⊢
  clear hg4
  generalize (w.alloc (.cells #[.string ⟨#[]⟩, .slice none 0 0] 103)) = W at *
  refine HFO.out.mono ?_
  rintro e w1 ⟨v1, fs, rfl, hfm, hfs, m1⟩
  obtain ⟨Af, nf, cf, rfl⟩ := hfm.1.form
  have hnf := hfm.len.1
  subst hnf
  have HF1 : Hid (∀ W, Pure w1 W → FmR W (.slice Af fs.length cf) fs) := Lib.hid (fun W h => hfm.pure h)
  have hfl2 : (famsS l).length = fs.length := by rw [← hfs]; simp [fmS]
  have HFS := Lib.hid hfs
  have hfl3 := Nat.le_of_eq hfl2
  have hfl4 := Nat.le_of_eq hfl2.symm
  have hfl5 := Nat.le_of_eq hfl
  have hfl6 := Nat.le_of_eq hfl.symm
  have hfb : (topsI l).length ≤ 12 := by
    unfold topsI
    exact Nat.le_trans (List.length_filter_le _ _) (by simp; omega)
  have HB1 := Lib.hid (HB.out.mod m1 _root_.id)
  have HM1 := Lib.hid (HP.out.trans m1)
  clear HFO HB HP hfm hfs m1 hfl2 hfl
  go_wp2_with fail
  go_loopg [10] (famsS l).length (fun gk i wr => RfRel w1 g4 l id gk i wr)
  case atStart => exact ⟨0, by omega, by omega, rfl, fun j _ hj => absurd hj (by omega), HB1.out, Mod.refl _ _⟩
  case round =>
    clear HB1
    obtain ⟨k, rfl, hk, rfl, hno, hB, hm⟩ := hrel
    have HNO := Lib.hid hno
    clear hno
    by_cases hlt : k < (famsS l).length
    · have hkf : k < fs.length := by omega
      have hkt : k < (topsI l).length := by omega
      obtain ⟨g, off, B, m, d, rfl, q1, q2, _, s1⟩ := (HF1.out wr hm).at hkf
      have hfe : (famsS l)[k] = (fs[k].1, fs[k].2.2) := by
        have := congrArg (fun x => x[k]?) HFS.out
        simpa [fmS, hkf, hlt] using this.symm
      have hfe2 : (famsS l)[k] = (idAt2 l (topsI l)[k], belS l 4 (topsI l)[k]) := by simp [famsS]
      have HHK := HH.out k hlt hkt
      rw [hfe] at HHK
      have HHK := Lib.hid HHK
      have HNK : Hid (id ∉ fs[k].2.2 → ∀ j (hj : j < (famsS l).length), j < k + 1 → id ∉ (famsS l)[j].2) := Lib.hid (fun h j hj hjk => by
        rcases Nat.lt_or_ge j k with h2 | h2
        · exact HNO.out j hj h2
        · have : j = k := by omega
          subst this
          rw [hfe]
          exact h)
      have HF1K : Hid (fs[k].1 = idAt2 l (topsI l)[k] ∧ fs[k].2.2 = belS l 4 (topsI l)[k]) := Lib.hid (by
        rw [hfe] at hfe2
        injection hfe2 with h1 h2
        exact ⟨h1, h2⟩)
      have hp2 := pure_alloc wr (.cells #[.string ⟨fs[k].1.toArray⟩, .slice B m d] 103)
      have HCC := Lib.hid (containsSq_calls _ (.slice B m d) fs[k].2.2 id (s1.pure hp2))
      rw [any_eq_mem] at HCC
      have HS2 := Lib.hid (s1.pure hp2)
      have HB2 := Lib.hid (Blk.new wr 103 #[.string ⟨fs[k].1.toArray⟩, .slice B m d])
      have HB4 := Lib.hid (hB.alloc (.cells #[.string ⟨fs[k].1.toArray⟩, .slice B m d] 103))
      have HM2 := Lib.hid (hm.trans hp2)
      have hg4l : g4 < wr.heap.size := hB.lt
      clear hfe hfe2 HNO hp2 s1 hB hm
      generalize fs[k].1 = fa at *
      generalize fs[k].2.2 = fb at *
      obtain ⟨bd, hbd⟩ : ∃ bd, decide (id ∈ fb) = bd := ⟨_, rfl⟩
      rw [hbd] at HCC
      have HBD := Lib.hid hbd
      clear hbd
      go_wp2_with fail
      refine HCC.out.mono ?_
      rintro e w3 ⟨rfl, m3⟩
      have hB3 := HB2.out.mod m3 _root_.id
      have hB4 := HB4.out.mod m3 _root_.id
      have HM3 := Lib.hid (HM2.out.trans m3)
      have hS3 := HS2.out.pure m3
      have HB43 := Lib.hid hB4
      generalize wr.heap.size = gx at *
      cases bd
      · have HN := Lib.hid (HNK.out (of_decide_eq_false HBD.out))
        clear HCC HB2 HB4 HM2 m3 hB3 hB4 HS2 HNK HF1K HHK HBD hS3
        go_wp2_with fail
        go_roundg ((famsS l).length - (k + 1))
        case measure => omega
        case rel => exact ⟨k + 1, rfl, by omega, by simp, HN.out, HB43.out, HM3.out⟩
      · have HT : Hid ((topsI l)[k] = tpI l (idxId l id)) := Lib.hid (HHK.out.1 (of_decide_eq_true HBD.out))
        obtain ⟨he1, he2⟩ := HF1K.out
        have HE1 : Hid (fa = idAt2 l (tpI l (idxId l id)) ∧ fb = fmB l id) := Lib.hid ⟨by rw [he1, HT.out], by rw [he2, HT.out]; rfl⟩
        have HS3 := Lib.hid (Sl.set_ne (Sl.set_ne hS3 hB4 (by decide) (j := 0) (.string ⟨fa.toArray⟩)) (hB4.set 0 (.string ⟨fa.toArray⟩)) (by decide) (j := 1) (.slice B m d))
        have s0 := hB3.cell 0; have s1 := hB3.cell 1; simp at s0 s1
        have t0 := hB4.cell 0; have tf0 := hB4.frozen 0; have t1 := hB4.cell 1; have tf1 := hB4.frozen 1; simp at t0 t1
        clear HCC HB2 HB4 HM2 m3 hB3 hB4 HS2 HNK HF1K HHK HBD hS3 he1 he2 HT HTM
        go_wp2_with fail
        have hB9 := HB43.out.set2 (x := .string ⟨fa.toArray⟩) (y := .slice B m d)
        have u0 := hB9.cell 0; have u1 := hB9.cell 1; simp at u0 u1
        refine bodyPost_ret (v := .agg #[.string ⟨fa.toArray⟩, .slice B m d]) (by simp [results, Tryz.results64, go_sem, u0, u1]) rfl ?_
        refine ⟨B, m, d, by rw [HE1.out.1], by rw [← HE1.out.2]; exact HS3.out, ((HM1.out.trans HM3.out).setCell (.inr (by show _ ≤ g4; omega)) _).setCell (.inr (by show _ ≤ g4; omega)) _⟩
    · exfalso
      obtain ⟨j, hj, he⟩ := List.getElem_of_mem HTM.out
      exact HNO.out j (by omega) (by omega) ((HH.out j (by omega) hj).2 he)

end Go.Proofs.YtofkkenmkflmiaaGreatDoor
